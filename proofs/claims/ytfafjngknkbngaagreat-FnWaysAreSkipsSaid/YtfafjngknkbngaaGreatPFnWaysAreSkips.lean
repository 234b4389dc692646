/- The row FnWaysAreSkips holds: for all bytes the law returns true and the argument reads as before. No condition. -/
import Derived.Test.YtfafjngknkbngaaGreatAPFnWaysAreSkips2
set_option linter.unusedVariables false
set_option linter.unusedSimpArgs false
set_option linter.unusedSectionVars false
namespace Go.G
set_option maxRecDepth 100000
open Go Go.V Go.Proofs
abbrev Lane:=ByteArray×List Int×Unit
abbrev Skip:=List Int×List Lane×Unit
theorem qbab (a:Skip):(a.1,a.2.1,())=a:=rfl
def Small (b:Nat) (a:Skip):Prop:=a.1.length≤b∧a.2.1.length≤b∧∀ x∈a.2.1,x.2.1.length≤b
theorem Small.mono {b c:Nat} {a:Skip} (h:Small b a) (hb:b≤c):Small c a:=⟨by have:=h.1;omega,by have:=h.2.1;omega,fun x hx=>by have:=h.2.2 x hx;omega⟩
def klt (a b:ByteArray):Prop:=Op.bytesLess a.toList b.toList=true
theorem q30 (a:ByteArray):¬ klt a a:=by
 unfold klt;rw[qtu];simp[List.lt_irrefl]
theorem qtm {a b c:ByteArray} (h:klt a b) (k:klt b c):klt a c:=by
 unfold klt at *;rw[qtu] at *
 simp only[decide_eq_true_eq] at *
 exact List.lt_trans h k
theorem qbus (a b:ByteArray):klt a b∨a=b∨klt b a:=by
 unfold klt;rw[qtu,qtu]
 simp only[decide_eq_true_eq]
 by_cases h1:a.toList<b.toList
 ·exact .inl h1
 ·by_cases h2:b.toList<a.toList
  ·exact .inr (.inr h2)
  ·exact .inr (.inl (q1l (List.le_antisymm (List.not_lt.1 h2) (List.not_lt.1 h1))))
theorem qbuy {a b:ByteArray} (h:klt a b):¬ klt b a:=fun k=>q30 a (qtm h k)
theorem qbpq {a b:ByteArray} (h:¬ klt a b):Op.bytesLess a.toList b.toList=false:=by
 simpa [klt] using h
def hstep (x:Int) (b:UInt8):Int:=Int.tmod (IntKind.wrap IntKind.i64 (IntKind.wrap IntKind.i64 (31 * x)+IntKind.wrap IntKind.i64 (b.toNat:Int))) 16
def hval (s:ByteArray):Int:=s.data.toList.foldl hstep 7
def qbv (s:ByteArray):Nat:=if hval s % 8=0 then 4 else if hval s % 4=0 then 3 else if hval s % 2=0 then 2 else 1
theorem qbre {x:Int} {b:UInt8} (h:0≤x∧x<16):0≤hstep x b∧hstep x b<16:=by
 unfold hstep
 have hb:b.toNat<256:=b.toNat_lt
 rw[qby (x:=31 * x) (by omega) (by omega),qby (x:=(b.toNat:Int)) (by omega) (by omega),qby (by omega) (by omega),Int.tmod_eq_emod_of_nonneg (by omega)]
 omega
theorem qbfn:∀ (l:List UInt8) (x:Int),0≤x∧x<16→0≤l.foldl hstep x∧l.foldl hstep x<16
 | [],_,h=>h
 | b::l,x,h=>qbfn l _ (qbre h)
theorem qbs2 (s:ByteArray):0≤hval s∧hval s<16:=qbfn _ _ (by omega)
theorem qj0 (s:ByteArray):1≤qbv s∧qbv s≤4:=by
 unfold qbv
 split
 ·omega
 ·split
  ·omega
  ·split<;>omega
theorem qbyp {s:ByteArray} {i:Nat} (h:i<s.size):(Array.getD s.data i (UInt8.ofNat 0))=s.data.toList[i]'(show i<s.data.toList.length from h):=by
 have h':i<s.data.size:=h
 unfold Array.getD
 rw[dif_pos h']
 rfl
theorem qbz9 {s:ByteArray}:s.data.toList.length=s.size:=rfl
theorem qbbh (D:Den ctx) (n:Nat) (K:Int→Option ((Int×Unit)×Unit)):∀ (m i:Nat) (s:ByteArray) (x:Int),s.size≤maxLen→i≤s.size→s.size - i<m→
  qiy D n K m s x s.size i=K ((s.data.toList.drop i).foldl hstep x)
 | 0,_,_,_,_,_,h=>by omega
 | m+1,i,s,x,hm,hi,hf=>by
  simp only[qiy,qvx]
  have hd:=qch
  by_cases h:i<s.size
  ·have hl:i<s.data.toList.length:=h
   have hc:(decide (0≤(i:Int))&&decide ((i:Int)<(s.size:Int)))=true:=by simp only[Bool.and_eq_true,decide_eq_true_eq];omega
   rw[qk (by exact_mod_cast h),hc,br_t,qr (i:=i) (by omega),Int.toNat_natCast,qbyp h,qc8 hl,List.foldl_cons]
   exact qbbh D n K m (i+1) s _ hm (by omega) (by omega)
  ·rw[qp (by exact_mod_cast h),List.drop_eq_nil_of_le (by rw[qbz9];omega)];rfl
theorem q5v {X:Ext} (hX:XOk X) {n:Nat} (hn:W+1≤n) (s:ByteArray) (hs:s.size≤maxLen):qhu (DD X n) s=some (((qbv s:Int),()),()):=by
 obtain ⟨n,rfl⟩:∃ k,n=k+1:=⟨n - 1,by omega⟩
 have hd:=qch
 rw[qbiv hX]
 simp only[qym,qxn,quy]
 have:=qbbh (DD X n) n (fun v=>qm5 (DD X n) n v) n 0 s 7 hs (by omega) (by have:=qbt;omega)
 rw[show ((0:Nat):Int)=0 from rfl,List.drop_zero] at this
 rw[this]
 have hr:=qbs2 s
 simp only[qm5]
 show br (decide (Int.tmod (hval s) 8=0)) _ _=_
 rw[Int.tmod_eq_emod_of_nonneg hr.1,show List.foldl hstep 7 s.data.toList=hval s from rfl,Int.tmod_eq_emod_of_nonneg hr.1,Int.tmod_eq_emod_of_nonneg hr.1]
 unfold qbv
 simp only[qbb8,decide_eq_true_eq]
 split
 ·rfl
 ·split
  ·rfl
  ·split<;>rfl
section
open Classical
open Classical
theorem qbme:∀ (N:Nat) (l:List Int),l.Nodup→(∀ x∈l,0≤x∧x<N)→l.length≤N
 | 0,l,_,h=>by
  cases l with
  | nil=>simp
  | cons x l=>have:=h x (List.mem_cons_self ..);omega
 | N+1,l,hn,h=>by
  have h1:=qbme N (l.erase (N:Int)) (hn.erase _) (fun x hx=>by
   have hm:=List.mem_of_mem_erase hx
   have hne:x≠(N:Int):=fun e=>by subst e;exact (hn.not_mem_erase hx).elim
   have:=h x hm;omega)
  by_cases hm:(N:Int)∈l
  ·rw[List.length_erase_of_mem hm] at h1;omega
  ·rw[List.erase_of_not_mem hm] at h1;omega
abbrev dl:Lane:=(ByteArray.empty,[],())
def qj (s:Skip) (p:Int):Lane:=s.2.1.getD p.toNat dl
def lst (out:List Int):Int:=out.getD (out.length - 1) 0
def bad (s:Skip) (lane:Nat) (p:Int) (out:List Int):Prop:=
 ¬ (0≤p∧p<s.2.1.length)∨(qj s p).2.1.length≤lane∨(0<out.length∧¬ klt (qj s (lst out)).1 (qj s p).1)
theorem q36 {s:Skip} {lane:Nat} {p:Int} {out:List Int}:¬ bad s lane p out↔(0≤p∧p<s.2.1.length)∧lane<(qj s p).2.1.length∧(0<out.length→klt (qj s (lst out)).1 (qj s p).1):=by
 unfold bad
 constructor
 ·intro h
  refine ⟨Classical.byContradiction fun h1=>h (.inl h1),?_,fun h1=>Classical.byContradiction fun h2=>h (.inr (.inr ⟨h1,h2⟩))⟩
  exact Nat.lt_of_not_le fun h1=>h (.inr (.inl h1))
 ·rintro ⟨h1,h2,h3⟩ (h | h | ⟨h,k⟩)
  ·exact h h1
  ·omega
  ·exact k (h3 h)
noncomputable def qjv (s:Skip) (lane:Nat):Nat→Int→List Int→Option (List Int)
 | 0,_,_=>none
 | f+1,p,out=>if p = -1 then some out else if bad s lane p out then none else qjv s lane f ((qj s p).2.1.getD lane 0) (out++[p])
structure Inc (s:Skip) (out:List Int):Prop where
 rng:∀ x∈out,0≤x∧x<s.2.1.length
 pw:out.Pairwise fun a b=>klt (qj s a).1 (qj s b).1
theorem Inc.nil (s:Skip):Inc s []:=⟨fun x h=>by simp at h,List.Pairwise.nil⟩
theorem qbsa {out:List Int} (h:0<out.length):lst out∈out:=by
 unfold lst
 rw[qz (by omega)]
 exact List.getElem_mem _
theorem Inc.last {s:Skip} {out:List Int} (h:Inc s out) (hp:0<out.length):∀ x∈out,x=lst out∨klt (qj s x).1 (qj s (lst out)).1:=by
 intro x hx
 obtain ⟨i,hi,rfl⟩:=List.mem_iff_getElem.1 hx
 by_cases e:i=out.length - 1
 ·left;unfold lst;rw[qz (by omega)];simp only[e]
 ·right
  unfold lst
  rw[qz (by omega)]
  exact List.pairwise_iff_getElem.1 h.pw i (out.length - 1) hi (by omega) (by omega)
theorem Inc.snoc {s:Skip} {lane:Nat} {out:List Int} {p:Int} (h:Inc s out) (hb:¬ bad s lane p out):Inc s (out++[p]):=by
 obtain ⟨b1,b2,b3⟩:=q36.1 hb
 refine ⟨fun x hx=>?_,List.pairwise_append.2 ⟨h.pw,by simp,fun a ha b hbm=>?_⟩⟩
 ·rcases List.mem_append.1 hx with hx | hx
  ·exact h.rng x hx
  ·simp only[List.mem_singleton] at hx;subst hx;exact b1
 ·simp only[List.mem_singleton] at hbm
  subst hbm
  have hp:0<out.length:=by cases out with | nil=>simp at ha | cons=>simp
  rcases h.last hp a ha with rfl | h1
  ·exact b3 hp
  ·exact qtm h1 (b3 hp)
theorem Inc.nodup {s:Skip} {out:List Int} (h:Inc s out):out.Nodup:=
 List.Pairwise.imp (fun hab e=>by subst e;exact q30 _ hab) h.pw
theorem Inc.len {s:Skip} {out:List Int} (h:Inc s out):out.length≤s.2.1.length:=qbme _ _ h.nodup h.rng
theorem qbmv {s:Skip} {lane:Nat}:∀ (f:Nat) {p:Int} {out l:List Int},Inc s out→qjv s lane f p out=some l→Inc s l
 | 0,_,_,_,_,h=>by simp[qjv] at h
 | f+1,p,out,l,hi,h=>by
  simp only[qjv] at h
  split at h
  ·simp only[Option.some.injEq] at h;subst h;exact hi
  ·split at h
   ·simp at h
   ·rename_i hb;exact qbmv f (hi.snoc hb) h
theorem qbhz {s:Skip} {lane:Nat}:∀ (f g:Nat) {p:Int} {out:List Int},Inc s out→s.2.1.length - out.length<f→s.2.1.length - out.length<g→qjv s lane f p out=qjv s lane g p out
 | 0,_,_,_,_,h,_=>by omega
 | _,0,_,_,_,_,h=>by omega
 | f+1,g+1,p,out,hi,hf,hg=>by
  simp only[qjv]
  split
  ·rfl
  ·split
   ·rfl
   ·rename_i hb
    have h1:=(hi.snoc hb).len
    simp only[List.length_append,List.length_singleton] at h1
    exact qbhz f g (hi.snoc hb) (by simp;omega) (by simp;omega)
noncomputable def lane (s:Skip) (j:Nat):Option (List Int):=qjv s j (s.2.1.length+1) (s.1.getD j 0) []
theorem qbug {X:Ext} (hX:XOk X) {n:Nat} (hn:1≤n) (a b c:Int):qev (DD X n) a b c=some ((decide (b≤a∧a≤c),()),()):=by
 obtain ⟨n,rfl⟩:∃ k,n=k+1:=⟨n - 1,by omega⟩
 rw[qbfe hX]
 simp only[q1b,q7l]
 by_cases h1:a≥b<;>by_cases h2:a≤c<;>simp[h1,h2]
theorem qbwf {out:List Int} (h:0<out.length):List.getD out (Int.toNat ((out.length:Int) - 1)) 0=lst out:=by
 unfold lst;congr 1;omega
theorem qbgb {X:Ext} (hX:XOk X) (N n:Nat) (hN:1≤N) {K0:Bool→List Int→Option ((List Int×Bool×Unit)×Unit)} {K1:List Int→Option ((List Int×Bool×Unit)×Unit)} {R0:Option ((List Int×Bool×Unit)×Unit)} (hK:∀ x,K0 false x=R0)
  (s:Skip) (hs:s.2.1.length≤1048576) (j:Nat):∀ (m:Nat) (p:Int) (out:List Int),Inc s out→s.2.1.length - out.length<m→
  qle (DD X N) n K0 K1 m j p s out=match qjv s j m p out with | some l=>K1 l | none=>R0
 | 0,_,_,_,h=>by omega
 | m+1,p,out,hi,hf=>by
  simp only[qle,qza,qjv]
  have hb':=qco
  by_cases h0:p = -1
  ·subst h0;rfl
  ·have e0:(p != -1)=true:=by simp[h0]
   rw[e0,br_t,qbug hX hN,qf,if_neg h0,qby (x:=(s.2.1.length:Int) - 1) (by omega) (by omega)]
   dsimp only
   by_cases h1:0≤p∧p≤(s.2.1.length:Int) - 1
   ·have hlt:p<s.2.1.length:=by omega
    rw[decide_eq_true h1,Bool.not_true,br_f,ixn h1.1 hlt,br_t]
    by_cases h2:(qj s p).2.1.length≤j
    ·rw[if_pos (.inr (.inl h2)),qk (by exact_mod_cast h2),hK]
    ·have h2':j<(qj s p).2.1.length:=by omega
     have ej:(decide (0≤(j:Int))&&decide ((j:Int)<((List.getD s.2.1 (Int.toNat p) (ByteArray.empty,[],())).2.1.length:Int)))=true:=ix h2'
     rw[qp (by show ¬ ((j:Int)≥((qj s p).2.1.length:Int));omega)]
     have hol:=hi.len
     by_cases h3:0<out.length
     ·have hlm:=hi.rng _ (qbsa h3)
      rw[qk (by omega),qby (x:=(out.length:Int) - 1) (by omega) (by omega),ixn (by omega) (by omega),br_t,qbwf h3,ixn hlm.1 hlm.2,br_t,br_t]
      by_cases h4:klt (qj s (lst out)).1 (qj s p).1
      ·have hnb:¬ bad s j p out:=q36.2 ⟨⟨h1.1,hlt⟩,h2',fun _=>h4⟩
       have e4:Op.bytesLess (List.getD s.2.1 (Int.toNat (lst out)) (ByteArray.empty,[],())).1.toList (List.getD s.2.1 (Int.toNat p) (ByteArray.empty,[],())).1.toList=true:=h4
       have hl2:=(hi.snoc hnb).len
       simp only[List.length_append,List.length_singleton] at hl2
       rw[if_neg hnb,e4,Bool.not_true,br_f,qk (by omega),br_t,ej,br_t,Int.toNat_natCast]
       exact qbgb hX N n hN hK s hs j m _ _ (hi.snoc hnb) (by simp;omega)
      ·have e4:Op.bytesLess (List.getD s.2.1 (Int.toNat (lst out)) (ByteArray.empty,[],())).1.toList (List.getD s.2.1 (Int.toNat p) (ByteArray.empty,[],())).1.toList=false:=qbpq h4
       rw[if_pos (.inr (.inr ⟨h3,h4⟩)),e4,Bool.not_false,br_t,hK]
     ·have hnb:¬ bad s j p out:=q36.2 ⟨⟨h1.1,hlt⟩,h2',fun h=>absurd h h3⟩
      have hl2:=(hi.snoc hnb).len
      simp only[List.length_append,List.length_singleton] at hl2
      rw[if_neg hnb,qp (by omega),qk (by omega),br_t,ej,br_t,Int.toNat_natCast]
      exact qbgb hX N n hN hK s hs j m _ _ (hi.snoc hnb) (by simp;omega)
   ·rw[decide_eq_false h1,Bool.not_false,br_t,hK,if_pos (.inl (by omega))]
theorem qboz {X:Ext} (hX:XOk X) {n:Nat} (hn:W+1≤n) (s:Skip) (hs:s.2.1.length≤1048576) (j:Nat) (hj:j<s.1.length) :
  qu8 (DD X n) s j=some (((lane s j).getD [],(lane s j).isSome,()),()):=by
 obtain ⟨n,rfl⟩:∃ k,n=k+1:=⟨n - 1,by omega⟩
 have hd:=qbt
 rw[qbnn hX]
 simp only[q2j,q2r,qyg]
 rw[ix hj,br_t,Int.toNat_natCast,qbgb hX n n (by omega) (R0:=some (([],false,()),())) (fun x=>rfl) s hs j n _ [] (Inc.nil s) (by omega)]
 rw[qbhz n (s.2.1.length+1) (Inc.nil s) (by omega) (by omega)]
 unfold lane
 cases qjv s j (s.2.1.length+1) (s.1.getD j 0) []<;>rfl
theorem qbwa {s:Skip} {j:Nat} {l:List Int} (h:lane s j=some l):Inc s l:=qbmv _ (Inc.nil s) h
theorem qbjh {s:Skip} {j:Nat}:∀ (f:Nat) {p:Int} {out l:List Int},(∀ x∈out,j<(qj s x).2.1.length)→qjv s j f p out=some l→∀ x∈l,j<(qj s x).2.1.length
 | 0,_,_,_,_,h=>by simp[qjv] at h
 | f+1,p,out,l,hi,h=>by
  simp only[qjv] at h
  split at h
  ·simp only[Option.some.injEq] at h;subst h;exact hi
  ·split at h
   ·simp at h
   ·rename_i hb
    refine qbjh f (fun x hx=>?_) h
    rcases List.mem_append.1 hx with hx | hx
    ·exact hi x hx
    ·simp only[List.mem_singleton] at hx;subst hx;exact (q36.1 hb).2.1
theorem qbum {s:Skip} {j:Nat} {l:List Int} (h:lane s j=some l):∀ x∈l,j<(qj s x).2.1.length:=qbjh _ (fun x hx=>by simp at hx) h
end
section
open Classical
open Classical
theorem qbue {a b:Nat} (h:a≠b):((a:Int) != (b:Int))=true:=by rw[bne_iff_ne];omega
theorem qbsd {a b:Nat} (h:a=b):((a:Int) != (b:Int))=false:=by rw[bne_eq_false_iff_eq];omega
abbrev OB:=Option ((Bool×Unit)×Unit)
noncomputable def L (s:Skip) (j:Nat):List Int:=(lane s j).getD []
theorem qgr (s:Skip) (j:Nat):Inc s (L s j):=by
 unfold L
 cases h:lane s j with
 | none=>exact Inc.nil s
 | some l=>exact qbwa h
theorem q1e (s:Skip) (j:Nat):∀ x∈L s j,j<(qj s x).2.1.length:=by
 unfold L
 cases h:lane s j with
 | none=>intro x hx;simp at hx
 | some l=>exact qbum h
noncomputable def cl (s:Skip):Nat→Int→Nat
 | 0,_=>0
 | j+1,k=>cl s j k+if k∈L s j then 1 else 0
theorem qbxs (s:Skip):∀ (j:Nat) (k:Int),cl s j k≤j
 | 0,_=>Nat.le_refl _
 | j+1,k=>by have:=qbxs s j k;simp only[cl];split<;>omega
def bump (t:List Int) (l:List Int):List Int:=l.foldl (fun t p=>t.set p.toNat (t.getD p.toNat 0+1)) t
theorem qbo8:∀ (l t:List Int),(bump t l).length=t.length
 | [],t=>rfl
 | p::l,t=>by
  show (bump (t.set p.toNat (t.getD p.toNat 0+1)) l).length=_
  rw[qbo8 l];simp
theorem qw1 {α:Type} {l:List α} {i j:Nat} {x d:α} (h:i<l.length):(l.set i x).getD j d=if j=i then x else l.getD j d:=by
 simp only[List.getD,List.getElem?_set]
 by_cases e:i=j
 ·subst e;simp[h]
 ·have:¬ j=i:=fun h=>e h.symm
  simp[e,this]
theorem qbpr:∀ (l t:List Int),l.Nodup→(∀ p∈l,0≤p∧p<t.length)→∀ k:Nat,(bump t l).getD k 0=t.getD k 0+if (k:Int)∈l then 1 else 0
 | [],t,_,_,k=>by simp[bump]
 | p::l,t,hn,hr,k=>by
  have hp:=hr p (List.mem_cons_self ..)
  have hn':=List.nodup_cons.1 hn
  show (bump (t.set p.toNat (t.getD p.toNat 0+1)) l).getD k 0=_
  rw[qbpr l _ hn'.2 (fun q hq=>by have:=hr q (List.mem_cons_of_mem _ hq);simpa using this) k,qw1 (by omega)]
  by_cases e:k=p.toNat
  ·have e2:(k:Int)=p:=by omega
   rw[if_pos e,e2,if_neg hn'.1,if_pos (List.mem_cons_self ..),e];omega
  ·have e2:¬ (k:Int)=p:=by omega
   rw[if_neg e]
   simp[e2]
theorem qbr5 (D:Den ctx) (n:Nat) (K0:Int→Skip→List Int→OB) (j:Int) (s:Skip) (l:List Int):∀ (m i:Nat) (t:List Int) (c:Int),l.length≤1048576→i≤l.length→l.length - i<m→(∀ p∈l,0≤p∧p<t.length)→
  (∀ k,0≤t.getD k 0∧t.getD k 0≤c)→0≤c→c+(l.length - i)≤1152921504606846976→
  qlc D n K0 m j l.length i s t l=K0 j s (bump t (l.drop i))
 | 0,_,_,_,_,_,h,_,_,_,_=>by omega
 | m+1,i,t,c,hl,hi,hf,hr,hc,h0,hb=>by
  simp only[qlc,qy9]
  by_cases h:i<l.length
  ·have hp:=hr _ (List.getElem_mem h)
   have hv:=hc (l[i].toNat)
   rw[qk (by exact_mod_cast h),ix h,br_t,Int.toNat_natCast,qz h,ixn hp.1 hp.2,br_t,br_t,qr (by omega),qby (x:=t.getD l[i].toNat 0+1) (by omega) (by omega)]
   have e:=qbr5 D n K0 j s l m (i+1) (t.set l[i].toNat (t.getD l[i].toNat 0+1)) (c+1) hl (by omega) (by omega) (by simpa using hr) (fun k=>by
    rw[qw1 (by omega)]
    have:=hc k
    split<;>omega) (by omega) (by omega)
   refine Eq.trans e ?_
   rw[qc8 h];rfl
  ·rw[qp (by exact_mod_cast h),qe7 h];rfl
theorem qbsc {X:Ext} (hX:XOk X) (n:Nat) (hn:W+1≤n) {K0:Bool→Skip→List Int→OB} {K1:Skip→List Int→OB} {R0:OB} (hK:∀ a b,K0 false a b=R0) (s:Skip) (hs:s.2.1.length≤1048576) (h4:s.1.length=4) :
  ∀ (d j m:Nat) (t:List Int),j+d=4→d<m→t.length=s.2.1.length→(∀ k:Nat,k<s.2.1.length→t.getD k 0=((cl s j k:Nat):Int))→
  (∃ t4:List Int,t4.length=s.2.1.length∧(∀ k:Nat,k<s.2.1.length→t4.getD k 0=((cl s 4 k:Nat):Int))∧(∀ i,j≤i→i<4→(lane s i).isSome)∧
   qdn (DD X n) n K0 K1 m j s t=K1 s t4)∨((∃ i,j≤i∧i<4∧lane s i=none)∧qdn (DD X n) n K0 K1 m j s t=R0)
 | d,j,0,_,_,h,_,_=>by omega
 | 0,j,m+1,t,hj,_,htl,ht=>by
  left
  have e4:j=4:=by omega
  subst e4
  refine ⟨t,htl,ht,fun i h1 h2=>by omega,?_⟩
  simp only[qdn,qty]
  rw[qp (by omega)]
 | d+1,j,m+1,t,hj,hm,htl,ht=>by
  have e0:qdn (DD X n) n K0 K1 (m+1) j s t=(if (lane s j).isSome then qdn (DD X n) n K0 K1 m (j+1:Nat) s (bump t (L s j)) else R0):=by
   simp only[qdn,qty]
   have hi:=qgr s j
   have hl:=hi.len
   have hd:=qbt
   rw[qk (by omega),qboz hX hn s hs j (by omega),qf]
   dsimp only
   cases hls:(lane s j).isSome with
   | false=>rw[Bool.not_false,br_t,hK];simp
   | true=>
    rw[Bool.not_true,br_f,if_pos rfl]
    show qr1 (DD X n) n _ _ _ j (L s j).length 0 s t (L s j)=_
    simp only[qr1]
    have:=qbr5 (DD X n) n (fun v0_0 v0_1 v0_2=>qqh (DD X n) n (qdn (DD X n) n K0 K1 m) K0 K1 v0_0 v0_1 v0_2) j s (L s j) n 0 t 4 (by omega) (by omega) (by omega) (by rw[htl];exact hi.rng) (fun k=>by
     by_cases hk:k<s.2.1.length
     ·rw[ht k hk];have:=qbxs s j k;omega
     ·have:t.getD k 0=0:=by simp[List.getD,List.getElem?_eq_none (by omega:t.length≤k)]
      rw[this];omega) (by omega) (by omega)
    rw[show ((0:Nat):Int)=0 from rfl] at this
    rw[this,List.drop_zero]
    simp only[qqh]
    rw[qr (by omega)]
  rw[e0]
  cases hls:lane s j with
  | none=>right;exact ⟨⟨j,by omega,by omega,hls⟩,by simp⟩
  | some l=>
   simp only[Option.isSome_some,if_true]
   have hi:=qgr s j
   have ih:=qbsc hX n hn (K1:=K1) hK s hs h4 d (j+1) m (bump t (L s j)) (by omega) (by omega) (by rw[qbo8,htl]) (fun k hk=>by
    rw[qbpr _ _ hi.nodup (by rw[htl];exact hi.rng) k,ht k hk]
    simp only[cl]
    push_cast
    split<;>rfl)
   rcases ih with ⟨t4,i1,i2,i3,i4⟩ | ⟨⟨i,i1,i2,i3⟩,i4⟩
   ·left
    refine ⟨t4,i1,i2,fun i h1 h2=>?_,i4⟩
    by_cases e:i=j
    ·subst e;rw[hls];rfl
    ·exact i3 i (by omega) h2
   ·right;exact ⟨⟨i,by omega,i2,i3⟩,i4⟩
def qu1 (s:Skip) (k:Nat):Prop:=0<cl s 4 k→(qj s k).2.1.length=qbv (qj s k).1∧cl s 4 k=(qj s k).2.1.length
theorem qbsi {X:Ext} (hX:XOk X) (N n:Nat) (hN:W+1≤N) {K0:Bool→OB} {K1:OB} (s:Skip) (hs:s.2.1.length≤1048576) (hk:∀ x∈s.2.1,x.1.size≤maxLen) (t:List Int) (htl:t.length=s.2.1.length) (ht:∀ k:Nat,k<s.2.1.length→t.getD k 0=((cl s 4 k:Nat):Int)) :
  ∀ (m i:Nat),i≤s.2.1.length→s.2.1.length - i<m→qlo (DD X N) n K0 K1 m s.2.1 s.2.1.length i t=if (∀ k,i≤k→k<s.2.1.length→qu1 s k) then K1 else K0 false
 | 0,_,_,h=>by omega
 | m+1,i,hi,hf=>by
  simp only[qlo,qzc]
  by_cases h:i<s.2.1.length
  ·have ih:=qbsi hX N n hN (K0:=K0) (K1:=K1) s hs hk t htl ht m (i+1) (by omega) (by omega)
   have hx:s.2.1.getD i dl∈s.2.1:=by rw[qz h];exact List.getElem_mem h
   have en:qj s (i:Int)=s.2.1.getD i dl:=rfl
   rw[qk (by exact_mod_cast h),ix h,br_t,ix (htl ▸ h),br_t,Int.toNat_natCast,ht i h,qr (by omega),ih]
   have split_:(∀ k,i≤k→k<s.2.1.length→qu1 s k)↔qu1 s i∧∀ k,i+1≤k→k<s.2.1.length→qu1 s k:=
    ⟨fun h1=>⟨h1 i (by omega) h,fun k h2 h3=>h1 k (by omega) h3⟩,fun h1 k h2 h3=>by
     by_cases e:k=i
     ·subst e;exact h1.1
     ·exact h1.2 k (by omega) h3⟩
   by_cases hc:0<cl s 4 i
   ·rw[qk (by omega),q5v hX hN _ (hk _ hx),qf]
    dsimp only
    by_cases h1:(s.2.1.getD i dl).2.1.length=qbv (s.2.1.getD i dl).1
    ·have e1:(((s.2.1.getD i dl).2.1.length:Int) != (qbv (s.2.1.getD i dl).1:Int))=false:=qbsd h1
     rw[e1,br_f,br_t]
     by_cases h2:cl s 4 i=(s.2.1.getD i dl).2.1.length
     ·have e2:((cl s 4 i:Int) != ((s.2.1.getD i dl).2.1.length:Int))=false:=qbsd h2
      rw[e2,br_f]
      have hno:qu1 s i:=fun _=>⟨h1,h2⟩
      by_cases h3:∀ k,i+1≤k→k<s.2.1.length→qu1 s k
      ·rw[if_pos h3,if_pos (split_.2 ⟨hno,h3⟩)]
      ·rw[if_neg h3,if_neg (fun h4=>h3 (split_.1 h4).2)]
     ·have e2:((cl s 4 i:Int) != ((s.2.1.getD i dl).2.1.length:Int))=true:=qbue h2
      rw[e2,br_t,if_neg (fun h4=>h2 ((split_.1 h4).1 hc).2)]
    ·have e1:(((s.2.1.getD i dl).2.1.length:Int) != (qbv (s.2.1.getD i dl).1:Int))=true:=qbue h1
     rw[e1,br_t,if_neg (fun h4=>h1 ((split_.1 h4).1 hc).1)]
   ·rw[qp (by omega)]
    have hno:qu1 s i:=fun h=>absurd h hc
    by_cases h3:∀ k,i+1≤k→k<s.2.1.length→qu1 s k
    ·rw[if_pos h3,if_pos (split_.2 ⟨hno,h3⟩)]
    ·rw[if_neg h3,if_neg (fun h4=>h3 (split_.1 h4).2)]
  ·rw[qp (by exact_mod_cast h),if_pos (fun k h1 h2=>by omega)]
def okP (s:Skip):Prop:=s.1.length=4∧s.2.1.length≤40∧(∀ j,j<4→(lane s j).isSome)∧∀ k,k<s.2.1.length→qu1 s k
theorem qbb2 {X:Ext} (hX:XOk X) {n:Nat} (hn:W+2≤n) (s:Skip) (hs:s.2.1.length≤1048576) (hk:∀ x∈s.2.1,x.1.size≤maxLen):qvg (DD X n) s=some ((decide (okP s),()),()):=by
 obtain ⟨n,rfl⟩:∃ k,n=k+1:=⟨n - 1,by omega⟩
 have hd:=qbt
 have hb:=qco
 rw[qbns hX]
 simp only[q15,q2u,qx2]
 by_cases h4:s.1.length=4
 ·have e4:((s.1.length:Int) != 4)=false:=by rw[h4];rfl
  rw[e4,cond_false]
  by_cases h40:s.2.1.length≤40
  ·rw[qp (by omega),qbxu (by omega),br_t]
   rcases qbsc hX n (by omega) (K0:=fun v0_0 v0_1 v0_2=>qv5 (DD X n) n v0_0 v0_1 v0_2) (K1:=fun v1_0 v1_1=>qpx (DD X n) n (qr9 (DD X n) n) v1_0 v1_1) (R0:=some ((false,()),())) (fun _ _=>rfl) s hs h4 4 0 n
     (List.replicate (Int.toNat (s.2.1.length:Int)) 0) rfl (by omega) (by simp) (fun k hk=>by simp[List.getD,cl,List.getElem?_replicate];split<;>rfl) with ⟨t4,i1,i2,i3,i4⟩ | ⟨⟨i,i1,i2,i3⟩,i4⟩
   ·rw[show ((0:Nat):Int)=0 from rfl] at i4
    rw[i4]
    simp only[qpx,qr9]
    have:=qbsi hX n n (by omega) (K0:=fun v0_0=>qwd (DD X n) n v0_0) (K1:=qwc (DD X n) n) s hs hk t4 i1 i2 n 0 (by omega) (by omega)
    rw[show ((0:Nat):Int)=0 from rfl] at this
    rw[this]
    by_cases hall:∀ k,0≤k→k<s.2.1.length→qu1 s k
    ·rw[if_pos hall,decide_eq_true (show okP s from ⟨h4,h40,fun j hj=>i3 j (by omega) hj,fun k hk=>hall k (by omega) hk⟩)];rfl
    ·rw[if_neg hall,decide_eq_false (fun h:okP s=>hall (fun k _ hk=>h.2.2.2 k hk))];rfl
   ·rw[show ((0:Nat):Int)=0 from rfl] at i4
    rw[i4,decide_eq_false]
    intro h
    have:=h.2.2.1 i i2
    rw[i3] at this
    simp at this
  ·rw[qk (by omega),decide_eq_false (fun h:okP s=>h40 h.2.1)]
 ·have e4:((s.1.length:Int) != 4)=true:=by simp;omega
  rw[e4,cond_true,br_t,decide_eq_false (fun h:okP s=>h4 h.1)]
end
section
open Classical
open Classical
def atOk (s:Skip) (j:Nat) (l:List Int) (e:Int):Prop:=(qj s e).2.1.length=qbv (qj s e).1∧(l.count e=1↔j<qbv (qj s e).1)
def qbzb (s:Skip) (j:Nat):Prop:=(lane s j).isSome∧(∀ x∈L s j,x∈L s 0)∧∀ e∈L s 0,atOk s j (L s j) e
theorem qny:∀ {l:List Int} (h:l.Nodup) (e:Int),l.count e=if e∈l then 1 else 0
 | [],_,e=>by simp
 | x::l,h,e=>by
  have h':=List.nodup_cons.1 h
  rw[List.count_cons,qny h'.2 e]
  by_cases e1:x=e
  ·subst e1
   rw[if_neg h'.1,if_pos (List.mem_cons_self ..)];simp
  ·have e2:(x == e)=false:=by simpa using e1
   have e3:¬ e=x:=fun h=>e1 h.symm
   simp[e2,e3]
theorem qbp4 (s:Skip):okP s↔s.1.length=4∧s.2.1.length≤40∧∀ i,i<4→qbzb s i:=by
 have cl4:∀ k:Int,cl s 4 k=(if k∈L s 0 then 1 else 0)+(if k∈L s 1 then 1 else 0)+(if k∈L s 2 then 1 else 0)+(if k∈L s 3 then 1 else 0):=by
  intro k;simp only[cl];omega
 have mem_nat:∀ {j:Nat} {e:Int},e∈L s j→∃ k:Nat,(k:Int)=e∧k<s.2.1.length:=by
  intro j e h
  have:=(qgr s j).rng e h
  exact ⟨e.toNat,by omega,by omega⟩
 constructor
 ·rintro ⟨h1,h2,h3,h4⟩
  -- a node in any lane is in just the lanes below its qbv
  have key:∀ e:Int,(∃ j,j<4∧e∈L s j)→(qj s e).2.1.length=qbv (qj s e).1∧∀ i,i<4→(e∈L s i↔i<qbv (qj s e).1):=by
   rintro e ⟨j,hj,he⟩
   obtain ⟨k,rfl,hk⟩:=mem_nat he
   have hc:=cl4 (k:Int)
   have hpos:0<cl s 4 k:=by
    rw[hc]
    have:j=0∨j=1∨j=2∨j=3:=by omega
    rcases this with rfl | rfl | rfl | rfl<;>rw[if_pos he]<;>omega
   obtain ⟨n1,n2⟩:=h4 k hk hpos
   refine ⟨n1,?_⟩
   have g0:=q1e s 0 (k:Int)
   have g1:=q1e s 1 (k:Int)
   have g2:=q1e s 2 (k:Int)
   have g3:=q1e s 3 (k:Int)
   rw[n1] at g0 g1 g2 g3 n2
   rw[hc] at n2
   intro i hi
   have:i=0∨i=1∨i=2∨i=3:=by omega
   rcases this with rfl | rfl | rfl | rfl<;>by_cases m0:(k:Int)∈L s 0<;>by_cases m1:(k:Int)∈L s 1<;>by_cases m2:(k:Int)∈L s 2<;>by_cases m3:(k:Int)∈L s 3<;>
    simp only[m0,m1,m2,m3,if_true,if_false,true_iff,false_iff,forall_const,true_implies] at *<;>omega
  refine ⟨h1,h2,fun i hi=>⟨h3 i hi,fun x hx=>?_,fun e he=>?_⟩⟩
  ·have:=key x ⟨i,hi,hx⟩
   exact (this.2 0 (by omega)).2 (by have:=qj0 (qj s x).1;omega)
  ·have:=key e ⟨0,by omega,he⟩
   refine ⟨this.1,?_⟩
   rw[qny (qgr s i).nodup,←this.2 i hi]
   split<;>simp_all
 ·rintro ⟨h1,h2,h3⟩
  refine ⟨h1,h2,fun j hj=>(h3 j hj).1,fun k hk hpos=>?_⟩
  have hc:=cl4 (k:Int)
  have h0:(k:Int)∈L s 0:=by
   refine Classical.byContradiction fun hn=>?_
   have f0:∀ j,j<4→(k:Int)∉L s j:=fun j hj hm=>hn ((h3 j hj).2.1 _ hm)
   rw[hc,if_neg (f0 0 (by omega)),if_neg (f0 1 (by omega)),if_neg (f0 2 (by omega)),if_neg (f0 3 (by omega))] at hpos
   omega
  have hm:∀ j,j<4→((k:Int)∈L s j↔j<qbv (qj s k).1):=by
   intro j hj
   rw[←((h3 j hj).2.2 _ h0).2,qny (qgr s j).nodup]
   split<;>simp_all
  have hl:=((h3 0 (by omega)).2.2 _ h0).1
  refine ⟨hl,?_⟩
  rw[hc,hl]
  have hr:=qj0 (qj s k).1
  have m0:=hm 0 (by omega)
  have m1:=hm 1 (by omega)
  have m2:=hm 2 (by omega)
  have m3:=hm 3 (by omega)
  simp only[m0,m1,m2,m3]
  generalize qbv (qj s k).1=hh at hr ⊢
  have:hh=1∨hh=2∨hh=3∨hh=4:=by omega
  rcases this with rfl | rfl | rfl | rfl<;>rfl
end
section
open Classical
open Classical
noncomputable def keys (s:Skip):List ByteArray:=if okP s then (L s 0).map fun p=>(qj s p).1 else []
theorem qbm8 (D:Den ctx) (n:Nat) (K:List ByteArray→Option ((List ByteArray×Unit)×Unit)) (s:Skip) (l:List Int) (hr:∀ x∈l,0≤x∧x<s.2.1.length) (hl:l.length≤1048576):∀ (m i:Nat) (o:List ByteArray),i≤l.length→l.length - i<m→o.length≤i→
  qko D n K m l.length i s o l=K (o++(l.drop i).map fun p=>(qj s p).1)
 | 0,_,_,_,h,_=>by omega
 | m+1,i,o,hi,hf,ho=>by
  simp only[qko,qxw]
  have hb:=qco
  by_cases h:i<l.length
  ·have hp:=hr _ (List.getElem_mem h)
   rw[qk (by exact_mod_cast h),ix h,br_t,Int.toNat_natCast,qz h,ixn hp.1 hp.2,br_t,qk (by omega),qr (by omega)]
   have e:=qbm8 D n K s l hr hl m (i+1) (o++[(qj s l[i]).1]) (by omega) (by omega) (by simp;omega)
   refine Eq.trans e ?_
   rw[qc8 h,List.map_cons,List.append_assoc];rfl
  ·rw[qp (by exact_mod_cast h),qe7 h];simp
theorem qbn8 {X:Ext} (hX:XOk X) {n:Nat} (hn:W+3≤n) (s:Skip) (hs:s.2.1.length≤1048576) (hk:∀ x∈s.2.1,x.1.size≤maxLen):qz3 (DD X n) s=some ((keys s,()),()):=by
 obtain ⟨n,rfl⟩:∃ k,n=k+1:=⟨n - 1,by omega⟩
 have hd:=qbt
 rw[qbln hX]
 simp only[q03,q0m,qvw]
 rw[qbb2 hX (by omega) s hs hk,qf]
 dsimp only
 unfold keys
 by_cases h:okP s
 ·have hl:=(qgr s 0).len
  rw[decide_eq_true h,Bool.not_true,br_f,if_pos h]
  have e:=qboz hX (n:=n) (by omega) s hs 0 (by rw[h.1];omega)
  rw[show ((0:Nat):Int)=0 from rfl] at e
  rw[e,qf]
  have:=qbm8 (DD X n) n (fun v=>qug (DD X n) n v) s (L s 0) (qgr s 0).rng (by omega) n 0 [] (by omega) (by omega) (by simp)
  rw[show ((0:Nat):Int)=0 from rfl,List.drop_zero,List.nil_append] at this
  exact this
 ·rw[decide_eq_false h,Bool.not_false,br_t,if_neg h]
end
section
open Classical
open Classical
def nxt (s:Skip) (p:Int) (j:Nat):Int:=if p = -1 then s.1.getD j 0 else (qj s p).2.1.getD j 0
def path (s:Skip) (j:Nat):Int→List Int→Prop
 | p,[]=>p = -1
 | p,x::r=>p=x∧0≤x∧path s j ((qj s x).2.1.getD j 0) r
theorem qbjq {s:Skip} {j:Nat}:∀ (f:Nat) {p:Int} {out l:List Int},qjv s j f p out=some l→∃ r,l=out++r∧path s j p r
 | 0,_,_,_,h=>by simp[qjv] at h
 | f+1,p,out,l,h=>by
  simp only[qjv] at h
  split at h
  ·rename_i hp
   simp only[Option.some.injEq] at h;subst h
   exact ⟨[],by simp,hp⟩
  ·split at h
   ·simp at h
   ·rename_i hb
    obtain ⟨r,rfl,hr⟩:=qbjq f h
    exact ⟨p::r,by simp,rfl,(q36.1 hb).1.1,hr⟩
theorem qbik {s:Skip} {j:Nat} (h:(lane s j).isSome):path s j (s.1.getD j 0) (L s j):=by
 unfold L
 obtain ⟨l,hl⟩:=Option.isSome_iff_exists.1 h
 rw[hl]
 obtain ⟨r,e,hr⟩:=qbjq _ hl
 rw[List.nil_append] at e
 subst e;exact hr
def aft:List Int→Int→List Int
 | [],_=>[]
 | x::l,a=>if x=a then l else aft l a
def rest (l:List Int) (a:Int):List Int:=if a = -1 then l else aft l a
theorem qbro:∀ (l:List Int) (a:Int),(aft l a).length≤l.length
 | [],_=>Nat.le_refl _
 | x::l,a=>by simp only[aft];split<;>simp<;>have:=qbro l a<;>omega
theorem qbop (l:List Int) (a:Int):(rest l a).length≤l.length:=by
 unfold rest;split
 ·exact Nat.le_refl _
 ·exact qbro l a
theorem qbrq:∀ (l:List Int) (a:Int),∀ x∈aft l a,x∈l
 | [],_,x,h=>by simp[aft] at h
 | y::l,a,x,h=>by
  simp only[aft] at h
  split at h
  ·exact List.mem_cons_of_mem _ h
  ·exact List.mem_cons_of_mem _ (qbrq l a x h)
theorem qbgz (l:List Int) (a:Int):∀ x∈rest l a,x∈l:=by
 unfold rest;split
 ·exact fun x h=>h
 ·exact qbrq l a
theorem qbok {s:Skip} {j:Nat}:∀ {l:List Int} {p a:Int},path s j p l→a∈l→path s j ((qj s a).2.1.getD j 0) (aft l a)
 | [],_,_,_,h=>by simp at h
 | x::l,p,a,hp,h=>by
  obtain ⟨rfl,h0,hp⟩:=hp
  simp only[aft]
  by_cases e:p=a
  ·subst e;rw[if_pos rfl];exact hp
  ·rw[if_neg e]
   exact qbok hp (by rcases List.mem_cons.1 h with h | h;exact absurd h.symm e;exact h)
theorem qbmz {s:Skip} {j:Nat} {a:Int} (h:(lane s j).isSome) (ha:a = -1∨a∈L s j):path s j (nxt s a j) (rest (L s j) a):=by
 unfold rest nxt
 by_cases e:a = -1
 ·rw[if_pos e,if_pos e];exact qbik h
 ·rw[if_neg e,if_neg e];exact qbok (qbik h) (ha.resolve_left e)
noncomputable def walk (s:Skip) (key:ByteArray):Int→Nat→List Int→Int×Nat
 | a,c,[]=>(a,c)
 | a,c,x::r=>if klt (qj s x).1 key then walk s key x (c+1) r else (a,c+1)
theorem qbpc {s:Skip} {key:ByteArray}:∀ (r:List Int) (a:Int) (c:Nat),(walk s key a c r).1=a∨(walk s key a c r).1∈r
 | [],a,c=>.inl rfl
 | x::r,a,c=>by
  simp only[walk]
  split
  ·rcases qbpc r x (c+1) with h | h
   ·right;rw[h];exact List.mem_cons_self ..
   ·right;exact List.mem_cons_of_mem _ h
  ·exact .inl rfl
theorem qbqb {s:Skip} {key:ByteArray}:∀ (r:List Int) (a:Int) (c:Nat),(walk s key a c r).2≤c+r.length
 | [],a,c=>Nat.le_refl _
 | x::r,a,c=>by
  simp only[walk,List.length_cons]
  split
  ·have:=qbqb r x (c+1) (s:=s) (key:=key);omega
  ·simp only;omega
noncomputable def stp (s:Skip) (key:ByteArray):Nat→Int×Nat
 | 0=>(-1,0)
 | d+1=>walk s key (stp s key d).1 (stp s key d).2 (rest (L s (3 - d)) (stp s key d).1)
theorem qbda {s:Skip} (h:okP s) {i j:Nat} (hij:i≤j) (hj:j<4) {e:Int} (he:e∈L s j):e∈L s i:=by
 obtain ⟨h1,h2,h3⟩:=(qbp4 s).1 h
 have h0:=(h3 j hj).2.1 e he
 have a1:=((h3 j hj).2.2 e h0).2
 have a2:=((h3 i (by omega)).2.2 e h0).2
 rw[qny (qgr s j).nodup,if_pos he] at a1
 rw[qny (qgr s i).nodup] at a2
 have:=a1.1 rfl
 have:=a2.2 (by omega)
 refine Classical.byContradiction fun hn=>?_
 rw[if_neg hn] at this
 omega
theorem qbh4 {s:Skip} (h:okP s) (key:ByteArray):∀ d,d≤4→(stp s key d).1 = -1∨∀ i,i+d≤4→(stp s key d).1∈L s i
 | 0,_=>.inl rfl
 | d+1,hd=>by
  simp only[stp]
  rcases qbpc (s:=s) (key:=key) (rest (L s (3 - d)) (stp s key d).1) (stp s key d).1 (stp s key d).2 with e | e
  ·rw[e]
   rcases qbh4 h key d (by omega) with h1 | h1
   ·exact .inl h1
   ·exact .inr fun i hi=>h1 i (by omega)
  ·right
   intro i hi
   exact qbda h (by omega:i≤3 - d) (by omega) (qbgz _ _ _ e)
theorem qbt3 {s:Skip} (h:okP s) (key:ByteArray) {d:Nat} (hd:d<4):(stp s key d).1 = -1∨(stp s key d).1∈L s (3 - d):=by
 rcases qbh4 h key d (by omega) with h1 | h1
 ·exact .inl h1
 ·exact .inr (h1 _ (by omega))
theorem qbrv (s:Skip) (key:ByteArray):∀ d,(stp s key d).2≤d * s.2.1.length
 | 0=>by simp[stp]
 | d+1=>by
  simp only[stp]
  have h1:=qbqb (s:=s) (key:=key) (rest (L s (3 - d)) (stp s key d).1) (stp s key d).1 (stp s key d).2
  have h2:=qbrv s key d
  have h3:=qbop (L s (3 - d)) (stp s key d).1
  have h4:=(qgr s (3 - d)).len
  rw[Nat.add_mul]
  omega
def qlx (s:Skip) (p:Int) (j:Nat):Prop:=p = -1∨(0≤p∧p<s.2.1.length∧j<(qj s p).2.1.length)
theorem qbbj {s:Skip} {p:Int} {j:Nat} (h:p = -1∨p∈L s j):qlx s p j:=h.imp id fun h=>⟨((qgr s j).rng p h).1,((qgr s j).rng p h).2,q1e s j p h⟩
theorem qbdl {X:Ext} (hX:XOk X) {n:Nat} (hn:1≤n) (s:Skip) (p:Int) (j:Nat) (hj:j<s.1.length) (hp:qlx s p j):qkz (DD X n) s p j=some ((nxt s p j,()),()):=by
 obtain ⟨n,rfl⟩:∃ k,n=k+1:=⟨n - 1,by omega⟩
 rw[qbej hX]
 simp only[qub,q3q,nxt]
 by_cases h:p = -1
 ·rw[qk h,if_pos h,ix hj,br_t,Int.toNat_natCast]
 ·obtain ⟨h1,h2,h3⟩:=hp.resolve_left h
  have e:(decide (0≤(j:Int))&&decide ((j:Int)<((List.getD s.2.1 (Int.toNat p) (ByteArray.empty,[],())).2.1.length:Int)))=true:=ix h3
  rw[qp h,if_neg h,ixn h1 h2,br_t,e,br_t,Int.toNat_natCast];rfl
theorem qbma {X:Ext} (hX:XOk X) (N n:Nat) (hN:1≤N) (K0:ByteArray→Int→Int→Int→Skip→List Int→Option ((List Int×Int×Unit)×Unit)) (s:Skip) (j:Nat) (hj:j<s.1.length) (key:ByteArray) (o:List Int) :
  ∀ (r:List Int) (m:Nat) (p:Int) (c:Nat),r.length<m→qlx s p j→path s j (nxt s p j) r→(∀ x∈r,0≤x∧x<s.2.1.length∧j<(qj s x).2.1.length)→c+r.length≤1099511627776→
  qkt (DD X N) n K0 m key c p j s o=K0 key (walk s key p c r).2 (walk s key p c r).1 j s o
 | _,0,_,_,h,_,_,_,_=>by omega
 | [],m+1,p,c,_,hp,hpa,_,_=>by
  simp only[qkt,qvi,walk]
  rw[qbdl hX hN s p j hj hp,qf]
  dsimp only
  have hpa':nxt s p j = -1:=hpa
  rw[qk hpa']
 | x::r,m+1,p,c,hm,hp,hpa,hr,hc=>by
  simp only[qkt,qvi,walk]
  obtain ⟨e,h0,hpa⟩:=hpa
  obtain ⟨x0,x1,x2⟩:=hr x (List.mem_cons_self ..)
  simp only[List.length_cons] at hm hc
  rw[qbdl hX hN s p j hj hp,qf]
  dsimp only
  rw[e,qp (by omega),ixn x0 x1,br_t]
  have ex:nxt s x j=(qj s x).2.1.getD j 0:=by unfold nxt;rw[if_neg (by omega)]
  have ew:IntKind.wrap IntKind.i64 ((c:Int)+1)=((c+1:Nat):Int):=qr (by omega)
  by_cases hk:klt (qj s x).1 key
  ·have e4:Op.bytesLess (List.getD s.2.1 (Int.toNat x) (ByteArray.empty,[],())).1.toList key.toList=true:=hk
   rw[e4,Bool.not_true,br_f,ew,if_pos hk]
   exact qbma hX N n hN K0 s j hj key o r m x (c+1) (by omega) (.inr ⟨x0,x1,x2⟩) (by rw[ex];exact hpa) (fun y hy=>hr y (List.mem_cons_of_mem _ hy)) (by omega)
  ·have e4:Op.bytesLess (List.getD s.2.1 (Int.toNat x) (ByteArray.empty,[],())).1.toList key.toList=false:=qbpq hk
   rw[e4,Bool.not_false,br_t,ew,if_neg hk]
noncomputable def bef (s:Skip) (key:ByteArray) (j:Nat):Int:=(stp s key (4 - j)).1
theorem qbse {X:Ext} (hX:XOk X) (n:Nat) (hn:W+1≤n) (K0:Int→List Int→Option ((List Int×Int×Unit)×Unit)) (s:Skip) (h:okP s) (key:ByteArray) :
  ∀ (d m:Nat) (o:List Int),d≤4→4 - d<m→o.length=4→(∀ i,i<4→4 - d≤i→o.getD i 0=bef s key i)→
  ∃ o',o'.length=4∧(∀ i,i<4→o'.getD i 0=bef s key i)∧qgq (DD X n) n K0 m key (stp s key d).2 (stp s key d).1 (3 - (d:Int)) s o=K0 (stp s key 4).2 o'
 | d,0,_,_,hm,_,_=>by omega
 | d,m+1,o,hd,hm,ho,hob=>by
  have hW:=qbt
  have h40:=h.2.1
  have hcnt:=qbrv s key d
  have hmul:d * s.2.1.length≤4 * 40:=Nat.mul_le_mul hd h40
  by_cases e4:d=4
  ·subst e4
   refine ⟨o,ho,fun i hi=>hob i hi (by omega),?_⟩
   simp only[qgq,qvb]
   rw[qp (by omega)]
  ·have hlt:d<4:=by omega
   have hat:=qbt3 h key hlt
   have hsome:=h.2.2.1 (3 - d) (by omega)
   have hlen:=qbop (L s (3 - d)) (stp s key d).1
   have hll:=(qgr s (3 - d)).len
   have hj:(3 - (d:Int))=((3 - d:Nat):Int):=by omega
   have e1:=qbma hX n n (by omega) (fun v0_0 v0_1 v0_2 v0_3 v0_4 v0_5=>qry (DD X n) n (qgq (DD X n) n K0 m) K0 v0_0 v0_1 v0_2 v0_3 v0_4 v0_5) s (3 - d) (by rw[h.1];omega) key o (rest (L s (3 - d)) (stp s key d).1) n (stp s key d).1 (stp s key d).2 (by omega)
    (qbbj hat) (qbmz hsome hat) (fun x hx=>by
     have hx':=qbgz _ _ _ hx
     exact ⟨((qgr s _).rng x hx').1,((qgr s _).rng x hx').2,q1e s _ x hx'⟩) (by omega)
   obtain ⟨o',i1,i2,i3⟩:=qbse hX n hn K0 s h key (d+1) m (o.set (3 - d) (stp s key (d+1)).1) (by omega) (by omega) (by simpa using ho) (fun i hi hge=>by
    rw[qw1 (by omega)]
    by_cases e:i=3 - d
    ·rw[if_pos e];unfold bef;congr 2;omega
    ·rw[if_neg e];exact hob i hi (by omega))
   refine ⟨o',i1,i2,?_⟩
   simp only[qgq,qvb]
   rw[qk (by omega),hj]
   simp only[qzy]
   rw[e1]
   simp only[qry]
   have ec:(decide (0≤((3 - d:Nat):Int))&&decide (((3 - d:Nat):Int)<(o.length:Int)))=true:=ix (by omega)
   rw[ec,br_t,Int.toNat_natCast,qby (by omega) (by omega)]
   rw[show ((3 - d:Nat):Int) - 1=3 - ((d+1:Nat):Int) by omega]
   exact i3
theorem qbya {X:Ext} (hX:XOk X) {n:Nat} (hn:W+2≤n) (s:Skip) (h:okP s) (key:ByteArray) :
  ∃ o',o'.length=4∧(∀ i,i<4→o'.getD i 0=bef s key i)∧q5c (DD X n) s key=some ((o',((stp s key 4).2:Int),()),()):=by
 obtain ⟨n,rfl⟩:∃ k,n=k+1:=⟨n - 1,by omega⟩
 have hW:=qbt
 obtain ⟨o',i1,i2,i3⟩:=qbse hX n (by omega) (fun v0_0 v0_1=>qx9 (DD X n) n v0_0 v0_1) s h key 0 n (List.replicate (Int.toNat 4) 0) (by omega) (by omega) (by rfl) (fun i hi hge=>by omega)
 refine ⟨o',i1,i2,?_⟩
 rw[qbqg hX]
 simp only[q50,q4y,q0n]
 exact i3
theorem qbvu {s:Skip} {j:Nat} {p:Int} {l:List Int} (h:path s j p l):p = -1∨p∈l:=by
 cases l with
 | nil=>exact .inl h
 | cons x r=>right;rw[h.1];exact List.mem_cons_self ..
theorem qbzo {s:Skip} (h:okP s) (key:ByteArray):nxt s (bef s key 0) 0 = -1∨nxt s (bef s key 0) 0∈L s 0:=by
 have hb:bef s key 0 = -1∨bef s key 0∈L s 0:=by
  rcases qbh4 h key 4 (by omega) with h1 | h1
  ·exact .inl h1
  ·exact .inr (h1 0 (by omega))
 rcases qbvu (qbmz (h.2.2.1 0 (by omega)) hb) with h1 | h1
 ·exact .inl h1
 ·exact .inr (qbgz _ _ _ h1)
theorem qbul {s:Skip} (h:okP s) (key:ByteArray) {j:Nat} (hj:j<4):bef s key j = -1∨bef s key j∈L s j:=by
 rcases qbh4 h key (4 - j) (by omega) with h1 | h1
 ·exact .inl h1
 ·exact .inr (h1 j (by omega))
end
section
open Classical
open Classical
theorem q8i {X:Ext} (hX:XOk X) {n:Nat} (hn:1≤n) (a:List Int) (ha:a.length≤qbi):qjn (DD X n) a=some ((a,()),()):=by
 obtain ⟨n,rfl⟩:∃ k,n=k+1:=⟨n - 1,by omega⟩
 rw[q68 hX]
 simp only[qnv,qu7]
 cases a with
 | nil=>simp[qbb8,both,qco]
 | cons x l=>
  simp only[List.length_cons] at ha
  simp[qbb8,nilK,V.br,ha,show ¬ (l.length+1=0) by omega]
abbrev OS:=Option ((Skip×Unit)×Unit)
theorem qbm9 {X:Ext} (hX:XOk X) (N n:Nat) (hN:1≤N) (K:Skip→Skip→OS) (l:List Lane) (hl:l.length≤1048576) (hs:∀ x∈l,x.2.1.length≤qbi) (z:Skip):∀ (m i:Nat) (o:Skip),i≤l.length→l.length - i<m→o.2.1.length≤i→
  qjh (DD X N) n K m l l.length i z o=K z (o.1,o.2.1++l.drop i,o.2.2)
 | 0,_,_,_,h,_=>by omega
 | m+1,i,o,hi,hf,ho=>by
  simp only[qjh,qwg]
  have hb:=qco
  by_cases h:i<l.length
  ·rw[qk (by exact_mod_cast h),ix h,br_t,Int.toNat_natCast,qz h,q8i hX hN _ (hs _ (List.getElem_mem h)),qf,qk (by omega),qr (by omega)]
   have e:=qbm9 hX N n hN K l hl hs z m (i+1) (o.1,o.2.1++[l[i]],o.2.2) (by omega) (by omega) (by simp;omega)
   refine Eq.trans e ?_
   rw[qc8 h];simp
  ·rw[qp (by exact_mod_cast h),qe7 h];simp
theorem qbsr {X:Ext} (hX:XOk X) {n:Nat} (hn:W+2≤n) (s:Skip) (hs:Small 1048576 s):qyl (DD X n) s=some ((s,()),()):=by
 obtain ⟨n,rfl⟩:∃ k,n=k+1:=⟨n - 1,by omega⟩
 have hW:=qbt
 have hb:=qco
 obtain ⟨h1,h2,h3⟩:=hs
 rw[qbju hX]
 simp only[qxr,qxz,qt7]
 rw[q8i hX (by omega) _ (by omega),qf]
 have:=qbm9 hX n n (by omega) (fun v w=>qmx (DD X n) n v w) s.2.1 h2 (fun x hx=>by have:=h3 x hx;omega) ([],[],()) n 0 (s.1,[],()) (by omega) (by omega) (by simp)
 rw[show ((0:Nat):Int)=0 from rfl] at this
 refine Eq.trans this ?_
 simp[qmx]
noncomputable def qd5 (s:Skip) (key:ByteArray):Int→List Int→Int
 | a,[]=>a
 | a,x::l=>if klt (qj s x).1 key then qd5 s key x l else qd5 s key a l
def lnk (a:Skip) (p:Int) (j:Nat) (to:Int):Skip:=
 if p = -1 then (a.1.set j to,a.2.1,()) else (a.1,a.2.1.set p.toNat ((qj a p).1,(qj a p).2.1.set j to,()),())
theorem qbze {X:Ext} (hX:XOk X) {n:Nat} (hn:1≤n) (a:Skip) (p:Int) (j:Nat) (to:Int) (hj:j<a.1.length) (hp:qlx a p j):qwn (DD X n) a p j to=some ((),(lnk a p j to,())):=by
 obtain ⟨n,rfl⟩:∃ k,n=k+1:=⟨n - 1,by omega⟩
 rw[qbfx hX]
 simp only[qv9,q53,lnk]
 by_cases h:p = -1
 ·rw[qk h,if_pos h,ix hj,br_t,Int.toNat_natCast]
 ·obtain ⟨h1,h2,h3⟩:=hp.resolve_left h
  have e:(decide (0≤(j:Int))&&decide ((j:Int)<((List.getD a.2.1 (Int.toNat p) (ByteArray.empty,[],())).2.1.length:Int)))=true:=ix h3
  rw[qp h,if_neg h,ixn h1 h2,br_t,e,br_t,Int.toNat_natCast];rfl
end
section
open Classical
open Classical
theorem qbbm {s:Skip} {key:ByteArray}:∀ (l:List Int) (a:Int) (c:Nat),l.Pairwise (fun x y=>klt (qj s x).1 (qj s y).1)→(walk s key a c l).1=qd5 s key a l
 | [],a,c,_=>rfl
 | x::l,a,c,h=>by
  obtain ⟨h1,h2⟩:=List.pairwise_cons.1 h
  simp only[walk,qd5]
  by_cases e:klt (qj s x).1 key
  ·rw[if_pos e,if_pos e];exact qbbm l x (c+1) h2
  ·rw[if_neg e,if_neg e]
   have:∀ (r:List Int),(∀ y∈r,¬ klt (qj s y).1 key)→qd5 s key a r=a:=by
    intro r
    induction r with
    | nil=>intro _;rfl
    | cons y r ih=>intro hr;simp only[qd5];rw[if_neg (hr y (List.mem_cons_self ..))];exact ih fun z hz=>hr z (List.mem_cons_of_mem _ hz)
   exact (this l fun y hy k=>e (qtm (h1 y hy) k)).symm
theorem qbb3 {s:Skip} {key:ByteArray} {a:Int}:∀ (r:List Int),(∀ y∈r,¬ klt (qj s y).1 key)→qd5 s key a r=a
 | [],_=>rfl
 | y::r,hr=>by simp only[qd5];rw[if_neg (hr y (List.mem_cons_self ..))];exact qbb3 r fun z hz=>hr z (List.mem_cons_of_mem _ hz)
theorem qboi {s:Skip} {key:ByteArray} {a:Int} (ha:klt (qj s a).1 key):∀ (l:List Int) (b:Int),l.Pairwise (fun x y=>klt (qj s x).1 (qj s y).1)→a∈l→qd5 s key b l=qd5 s key a (aft l a)
 | [],_,_,h=>by simp at h
 | x::l,b,h,hm=>by
  obtain ⟨h1,h2⟩:=List.pairwise_cons.1 h
  simp only[qd5,aft]
  by_cases e:x=a
  ·subst e;rw[if_pos ha,if_pos rfl]
  ·have hml:a∈l:=(List.mem_cons.1 hm).resolve_left fun k=>e k.symm
   rw[if_neg e,if_pos (qtm (h1 a hml) ha)]
   exact qboi ha l x h2 hml
theorem q87 {s:Skip} {key:ByteArray}:∀ (l:List Int) (a:Int),qd5 s key a l=a∨(qd5 s key a l∈l∧klt (qj s (qd5 s key a l)).1 key)
 | [],a=>.inl rfl
 | x::l,a=>by
  simp only[qd5]
  by_cases e:klt (qj s x).1 key
  ·rw[if_pos e]
   rcases q87 l x with h | ⟨h,k⟩
   ·right;rw[h];exact ⟨List.mem_cons_self ..,e⟩
   ·right;exact ⟨List.mem_cons_of_mem _ h,k⟩
  ·rw[if_neg e]
   rcases q87 l a with h | ⟨h,k⟩
   ·exact .inl h
   ·right;exact ⟨List.mem_cons_of_mem _ h,k⟩
theorem qbp3 {R:Int→Int→Prop}:∀ {l:List Int} {a:Int},l.Pairwise R→(aft l a).Pairwise R
 | [],_,h=>h
 | x::l,a,h=>by
  obtain ⟨h1,h2⟩:=List.pairwise_cons.1 h
  simp only[aft]
  split
  ·exact h2
  ·exact qbp3 h2
theorem qbpg {s:Skip} (h:okP s) (key:ByteArray):∀ d,d≤4→(stp s key d).1 = -1∨klt (qj s (stp s key d).1).1 key
 | 0,_=>.inl rfl
 | d+1,hd=>by
  have hp:=(qgr s (3 - d)).pw
  simp only[stp]
  rw[qbbm _ _ _ (by unfold rest;split;exact hp;exact qbp3 hp)]
  rcases q87 (s:=s) (key:=key) (rest (L s (3 - d)) (stp s key d).1) (stp s key d).1 with e | ⟨_,e⟩
  ·rw[e];exact qbpg h key d (by omega)
  ·exact .inr e
theorem qbqp {s:Skip} (h:okP s) (key:ByteArray) {j:Nat} (hj:j<4):bef s key j=qd5 s key (-1) (L s j):=by
 have hp:=(qgr s j).pw
 unfold bef
 obtain ⟨d,hd⟩:∃ d,4 - j=d+1:=⟨3 - j,by omega⟩
 have hjd:3 - d=j:=by omega
 rw[hd]
 simp only[stp]
 rw[hjd,qbbm _ _ _ (by unfold rest;split;exact hp;exact qbp3 hp)]
 have hin:=qbt3 h key (d:=d) (by omega)
 have hl:=qbpg h key d (by omega)
 rw[hjd] at hin
 unfold rest
 by_cases e:(stp s key d).1 = -1
 ·rw[if_pos e,e]
 ·rw[if_neg e]
  exact (qboi (hl.resolve_left e) _ _ hp (hin.resolve_left e)).symm
noncomputable def ins (s:Skip) (key:ByteArray) (n:Int):List Int→List Int
 | []=>[n]
 | x::l=>if klt (qj s x).1 key then x::ins s key n l else n::x::l
theorem qts {s:Skip} {key:ByteArray} {n:Int}:∀ {l:List Int} {y:Int},y∈ins s key n l↔y=n∨y∈l
 | [],y=>by simp[ins]
 | x::l,y=>by
  simp only[ins]
  split
  ·rw[List.mem_cons,qts,List.mem_cons]
   constructor
   ·rintro (h | h | h)
    ·exact .inr (.inl h)
    ·exact .inl h
    ·exact .inr (.inr h)
   ·rintro (h | h | h)
    ·exact .inr (.inl h)
    ·exact .inl h
    ·exact .inr (.inr h)
  ·simp
theorem qbrm {s:Skip} {key:ByteArray} {n:Int}:∀ (l:List Int),(ins s key n l).length=l.length+1
 | []=>rfl
 | x::l=>by
  simp only[ins]
  split
  ·simp[qbrm l]
  ·simp
theorem qbci {s t:Skip} {j:Nat}:∀ {l:List Int} {p:Int},path s j p l→(∀ y∈l,(qj t y).2.1.getD j 0=(qj s y).2.1.getD j 0)→path t j p l
 | [],_,h,_=>h
 | x::l,p,h,hs=>by
  obtain ⟨h1,h2,h3⟩:=h
  refine ⟨h1,h2,?_⟩
  rw[hs x (List.mem_cons_self ..)]
  exact qbci h3 fun y hy=>hs y (List.mem_cons_of_mem _ hy)
structure Put (s:Skip) (key:ByteArray) (t:Skip):Prop where
 heads:t.1.length=4
 len:t.2.1.length=s.2.1.length+1
 keys:∀ p:Int,0≤p→p<s.2.1.length→(qj t p).1=(qj s p).1∧(qj t p).2.1.length=(qj s p).2.1.length
 nkey:(qj t s.2.1.length).1=key
 nlen:(qj t s.2.1.length).2.1.length=qbv key
 nx:∀ (j:Nat) (p:Int),j<4→qlx s p j→nxt t p j=if j<qbv key∧p=bef s key j then (s.2.1.length:Int) else nxt s p j
 nn:∀ j:Nat,j<qbv key→nxt t s.2.1.length j=nxt s (bef s key j) j
theorem qbox {s t:Skip} {key:ByteArray} (h:Put s key t) {j:Nat} (hj:j<4) (hh:j<qbv key):∀ (l:List Int) (a:Int),path s j (nxt s a j) l→qlx s a j→(∀ x∈l,qlx s x j∧x≠a∧x≠-1)→l.Pairwise (fun x y=>klt (qj s x).1 (qj s y).1)→l.Nodup→bef s key j=qd5 s key a l→
  path t j (nxt t a j) (ins s key s.2.1.length l)
 | [],a,hp,ha,_,_,_,hb=>by
  have hb':bef s key j=a:=hb
  have e1:=h.nx j a hj ha
  rw[if_pos ⟨hh,hb'.symm⟩] at e1
  have e2:=h.nn j hh
  rw[hb'] at e2
  have e3:nxt s a j = -1:=hp
  have e4:nxt t (s.2.1.length:Int) j=(qj t s.2.1.length).2.1.getD j 0:=by unfold nxt;rw[if_neg (by omega)]
  simp only[ins]
  exact ⟨e1,by omega,by rw[←e4,e2,e3];rfl⟩
 | x::l,a,hp,ha,hl,hw,hn,hb=>by
  obtain ⟨p1,p2,p3⟩:=hp
  obtain ⟨w1,w2⟩:=List.pairwise_cons.1 hw
  obtain ⟨n1,n2⟩:=List.nodup_cons.1 hn
  obtain ⟨x1,x2,x3⟩:=hl x (List.mem_cons_self ..)
  have ex:∀ u:Skip,nxt u x j=(qj u x).2.1.getD j 0:=fun u=>by unfold nxt;rw[if_neg x3]
  simp only[ins]
  simp only[qd5] at hb
  by_cases e:klt (qj s x).1 key
  ·rw[if_pos e]
   rw[if_pos e] at hb
   have hba:¬ a=bef s key j:=by
    rw[hb]
    intro k
    rcases q87 (s:=s) (key:=key) l x with m | ⟨m,_⟩
    ·rw[m] at k;exact x2 k.symm
    ·exact (hl _ (List.mem_cons_of_mem _ m)).2.1 k.symm
   have e1:=h.nx j a hj ha
   rw[if_neg (fun k=>hba k.2)] at e1
   refine ⟨e1.trans p1,p2,?_⟩
   have:=qbox h hj hh l x (by rw[ex];exact p3) x1 (fun y hy=>⟨(hl y (List.mem_cons_of_mem _ hy)).1,fun k=>n1 (k ▸ hy),(hl y (List.mem_cons_of_mem _ hy)).2.2⟩) w2 n2 hb
   rwa [ex] at this
  ·rw[if_neg e]
   rw[if_neg e,qbb3 l (fun y hy k=>e (qtm (w1 y hy) k))] at hb
   have e1:=h.nx j a hj ha
   rw[if_pos ⟨hh,hb.symm⟩] at e1
   have e2:=h.nn j hh
   rw[hb,p1] at e2
   have e4:nxt t (s.2.1.length:Int) j=(qj t s.2.1.length).2.1.getD j 0:=by unfold nxt;rw[if_neg (by omega)]
   refine ⟨e1,by omega,?_⟩
   rw[←e4,e2]
   refine qbci (s:=s) (⟨rfl,p2,p3⟩:path s j x (x::l)) fun y hy=>?_
   obtain ⟨y1,y2,y3⟩:=hl y hy
   have e5:=h.nx j y hj y1
   rw[if_neg (fun k=>y2 (k.2.trans hb))] at e5
   have ey:∀ u:Skip,nxt u y j=(qj u y).2.1.getD j 0:=fun u=>by unfold nxt;rw[if_neg y3]
   rw[ey,ey] at e5
   exact e5
theorem q20 {t:Skip} {j:Nat}:∀ (l:List Int) (f:Nat) (p:Int) (out:List Int),l.length<f→path t j p l→(∀ x∈l,0≤x∧x<t.2.1.length∧j<(qj t x).2.1.length)→(out++l).Pairwise (fun x y=>klt (qj t x).1 (qj t y).1)→
  qjv t j f p out=some (out++l)
 | _,0,_,_,h,_,_,_=>by omega
 | [],f+1,p,out,_,hp,_,_=>by
  have hp':p = -1:=hp
  simp only[qjv]
  rw[if_pos hp',List.append_nil]
 | x::l,f+1,p,out,hf,hp,hl,hw=>by
  obtain ⟨p1,p2,p3⟩:=hp
  subst p1
  obtain ⟨x1,x2,x3⟩:=hl p (List.mem_cons_self ..)
  have hnb:¬ bad t j p out:=q36.2 ⟨⟨x1,x2⟩,x3,fun ho=>(List.pairwise_append.1 hw).2.2 _ (qbsa ho) _ (List.mem_cons_self ..)⟩
  simp only[qjv]
  rw[if_neg (by omega),if_neg hnb,q20 l f _ (out++[p]) (by simp only[List.length_cons] at hf;omega) p3 (fun y hy=>hl y (List.mem_cons_of_mem _ hy)) (by simpa using hw)]
  simp
theorem qbuh {s t:Skip} {key:ByteArray} (h:Put s key t) (hs:∀ x:Int,0≤x→x<s.2.1.length→¬ (qj s x).1=key∨True):∀ (l:List Int),(∀ x∈l,(0≤x∧x<s.2.1.length)∧(qj s x).1≠key)→l.Pairwise (fun x y=>klt (qj s x).1 (qj s y).1)→
  (ins s key s.2.1.length l).Pairwise (fun x y=>klt (qj t x).1 (qj t y).1)
 | [],_,_=>by simp[ins]
 | x::l,hl,hw=>by
  obtain ⟨w1,w2⟩:=List.pairwise_cons.1 hw
  have hk:∀ y∈x::l,(qj t y).1=(qj s y).1:=fun y hy=>(h.keys y (hl y hy).1.1 (hl y hy).1.2).1
  simp only[ins]
  by_cases e:klt (qj s x).1 key
  ·rw[if_pos e,List.pairwise_cons]
   refine ⟨fun y hy=>?_,qbuh h hs l (fun y hy=>hl y (List.mem_cons_of_mem _ hy)) w2⟩
   rw[hk x (List.mem_cons_self ..)]
   rcases qts.1 hy with rfl | hy
   ·rw[h.nkey];exact e
   ·rw[hk y (List.mem_cons_of_mem _ hy)];exact w1 y hy
  ·rw[if_neg e,List.pairwise_cons]
   have hx:klt key (qj s x).1:=by
    rcases qbus (qj s x).1 key with k | k | k
    ·exact absurd k e
    ·exact absurd k (hl x (List.mem_cons_self ..)).2
    ·exact k
   refine ⟨fun y hy=>?_,?_⟩
   ·rw[h.nkey,hk y hy]
    rcases List.mem_cons.1 hy with rfl | hy
    ·exact hx
    ·exact qtm hx (w1 y hy)
   ·refine List.Pairwise.imp_of_mem ?_ hw
    intro a b ha hb k
    rw[hk a ha,hk b hb];exact k
theorem qbm5 {s:Skip} {j:Nat} {l:List Int} (h:lane s j=some l):L s j=l:=by unfold L;rw[h];rfl
theorem qbgc {s t:Skip} {key:ByteArray} (hs:okP s) (h:Put s key t) (hnew:∀ x∈L s 0,(qj s x).1≠key) {j:Nat} (hj:j<4) :
  lane t j=some (if j<qbv key then ins s key s.2.1.length (L s j) else L s j):=by
 have hi:=qgr s j
 have hsome:=hs.2.2.1 j hj
 have hp:=qbik hsome
 have hlj:∀ x∈L s j,qlx s x j∧x≠-1:=fun x hx=>⟨.inr ⟨(hi.rng x hx).1,(hi.rng x hx).2,q1e s j x hx⟩,by have:=(hi.rng x hx).1;omega⟩
 have hk0:∀ x∈L s j,(qj s x).1≠key:=fun x hx=>hnew x (qbda hs (Nat.zero_le _) hj hx)
 have hnh:nxt t (-1) j=t.1.getD j 0:=rfl
 have hold:∀ x∈L s j,0≤x∧x<t.2.1.length∧j<(qj t x).2.1.length:=fun x hx=>by
  have h1:=hi.rng x hx
  have h2:=h.keys x h1.1 h1.2
  have h3:=q1e s j x hx
  exact ⟨h1.1,by rw[h.len];omega,by omega⟩
 unfold lane
 by_cases hh:j<qbv key
 ·rw[if_pos hh]
  have hpath:=qbox h hj hh (L s j) (-1) (by have e:nxt s (-1) j=s.1.getD j 0:=rfl;rw[e];exact hp) (.inl rfl) (fun x hx=>⟨(hlj x hx).1,(hlj x hx).2,(hlj x hx).2⟩) hi.pw hi.nodup (qbqp hs key hj)
  rw[hnh] at hpath
  have:=q20 (ins s key s.2.1.length (L s j)) (t.2.1.length+1) _ [] (by rw[qbrm,h.len];have:=hi.len;omega) hpath (fun x hx=>by
   rcases qts.1 hx with rfl | hx
   ·exact ⟨by omega,by rw[h.len];omega,by rw[h.nlen];exact hh⟩
   ·exact hold x hx) (by rw[List.nil_append];exact qbuh h (fun _ _ _=>.inr trivial) _ (fun x hx=>⟨hi.rng x hx,hk0 x hx⟩) hi.pw)
  simpa using this
 ·rw[if_neg hh]
  have e0:=h.nx j (-1) hj (.inl rfl)
  rw[if_neg (fun k=>hh k.1),hnh] at e0
  have hpath:path t j (t.1.getD j 0) (L s j):=by
   rw[e0]
   refine qbci (s:=s) hp fun y hy=>?_
   obtain ⟨y1,y3⟩:=hlj y hy
   have e5:=h.nx j y hj y1
   rw[if_neg (fun k=>hh k.1)] at e5
   have ey:∀ u:Skip,nxt u y j=(qj u y).2.1.getD j 0:=fun u=>by unfold nxt;rw[if_neg y3]
   rw[ey,ey] at e5
   exact e5
  have:=q20 (L s j) (t.2.1.length+1) _ [] (by rw[h.len];have:=hi.len;omega) hpath hold (by
   rw[List.nil_append]
   refine List.Pairwise.imp_of_mem ?_ hi.pw
   intro a b ha hb k
   rw[(h.keys a (hi.rng a ha).1 (hi.rng a ha).2).1,(h.keys b (hi.rng b hb).1 (hi.rng b hb).2).1];exact k)
  simpa using this
theorem qbvf {s t:Skip} {key:ByteArray} (hs:okP s) (h:Put s key t) (hnew:∀ x∈L s 0,(qj s x).1≠key):okP t↔s.2.1.length+1≤40:=by
 constructor
 ·intro ht;have:=ht.2.1;rw[h.len] at this;exact this
 ·intro h40
  rw[qbp4]
  have hL:∀ j,j<4→L t j=if j<qbv key then ins s key s.2.1.length (L s j) else L s j:=fun j hj=>qbm5 (qbgc hs h hnew hj)
  have hr:=qj0 key
  have hL0:L t 0=ins s key s.2.1.length (L s 0):=by rw[hL 0 (by omega),if_pos (by omega)]
  have hold:=(qbp4 s).1 hs
  refine ⟨h.heads,by rw[h.len];exact h40,fun i hi=>⟨by rw[qbgc hs h hnew hi];rfl,fun x hx=>?_,fun e he=>?_⟩⟩
  ·rw[hL i hi] at hx
   rw[hL0,qts]
   by_cases hh:i<qbv key
   ·rw[if_pos hh] at hx
    rcases qts.1 hx with k | k
    ·exact .inl k
    ·exact .inr (qbda hs (Nat.zero_le _) hi k)
   ·rw[if_neg hh] at hx
    exact .inr (qbda hs (Nat.zero_le _) hi hx)
  ·unfold atOk
   rw[qny (qgr t i).nodup,hL i hi]
   rw[hL0,qts] at he
   rcases he with rfl | he
   ·rw[h.nkey,h.nlen]
    refine ⟨rfl,?_⟩
    have hnot:(s.2.1.length:Int)∉L s i:=fun k=>by have:=(qgr s i).rng _ k;omega
    by_cases hh:i<qbv key
    ·rw[if_pos hh,if_pos (qts.2 (.inl rfl))];simp[hh]
    ·rw[if_neg hh,if_neg hnot];simp[hh]
   ·have hrg:=(qgr s 0).rng e he
    obtain ⟨k1,k2⟩:=h.keys e hrg.1 hrg.2
    obtain ⟨a1,a2⟩:=(hold.2.2 i hi).2.2 e he
    rw[qny (qgr s i).nodup] at a2
    rw[k1,k2]
    refine ⟨a1,?_⟩
    rw[←a2]
    have hne:e≠(s.2.1.length:Int):=by omega
    by_cases hh:i<qbv key
    ·rw[if_pos hh]
     by_cases hm:e∈L s i
     ·rw[if_pos hm,if_pos (qts.2 (.inr hm))]
     ·rw[if_neg hm,if_neg (fun k=>(qts.1 k).elim hne hm)]
    ·rw[if_neg hh]
end
section
open Classical
open Classical
theorem qbvc (a:Skip) (p:Int) (j:Nat) (to:Int):(lnk a p j to).1.length=a.1.length:=by unfold lnk;split<;>simp
theorem qbyv (a:Skip) (p:Int) (j:Nat) (to:Int):(lnk a p j to).2.1.length=a.2.1.length:=by unfold lnk;split<;>simp
theorem qbfu {a:Skip} {p q:Int} {j:Nat} {to:Int} (hp:qlx a p j) (hq:0≤q):qj (lnk a p j to) q=if q=p then ((qj a p).1,(qj a p).2.1.set j to,()) else qj a q:=by
 unfold lnk
 by_cases h:p = -1
 ·rw[if_pos h,if_neg (by omega)];rfl
 ·obtain ⟨h1,h2,h3⟩:=hp.resolve_left h
  rw[if_neg h]
  show (a.2.1.set p.toNat _).getD q.toNat dl=_
  rw[qw1 (by omega)]
  by_cases e:q=p
  ·rw[if_pos (by omega),if_pos e]
  ·rw[if_neg (by omega),if_neg e];rfl
theorem qbx7 {a:Skip} {p q:Int} {i j:Nat} {to:Int} (hj:j<a.1.length) (hp:qlx a p j) (hq:q = -1∨0≤q):nxt (lnk a p j to) q i=if q=p∧i=j then to else nxt a q i:=by
 by_cases h:q = -1
 ·subst h
  by_cases h2:p = -1
  ·subst h2
   show (lnk a (-1) j to).1.getD i 0=_
   unfold lnk
   rw[if_pos rfl]
   show (a.1.set j to).getD i 0=_
   rw[qw1 hj]
   by_cases e:i=j
   ·rw[if_pos e,if_pos ⟨rfl,e⟩]
   ·rw[if_neg e,if_neg (fun k=>e k.2)];rfl
  ·rw[if_neg (fun k=>h2 k.1.symm)]
   show (lnk a p j to).1.getD i 0=a.1.getD i 0
   unfold lnk
   rw[if_neg h2]
 ·have h0:0≤q:=hq.resolve_left h
  unfold nxt
  rw[if_neg h,if_neg h,qbfu hp h0]
  by_cases e:q=p
  ·subst e
   obtain ⟨h1,h2,h3⟩:=hp.resolve_left h
   rw[if_pos rfl]
   show ((qj a q).2.1.set j to).getD i 0=_
   rw[qw1 h3]
   by_cases e:i=j
   ·rw[if_pos e,if_pos ⟨rfl,e⟩]
   ·rw[if_neg e,if_neg (fun k=>e k.2)]
  ·rw[if_neg e,if_neg (fun k=>e k.1)]
theorem qbyw {a:Skip} {p q:Int} {j:Nat} {to:Int} (hp:qlx a p j) (hq:0≤q):(qj (lnk a p j to) q).1=(qj a q).1∧(qj (lnk a p j to) q).2.1.length=(qj a q).2.1.length:=by
 rw[qbfu hp hq]
 by_cases e:q=p
 ·subst e;rw[if_pos rfl];simp
 ·rw[if_neg e];exact ⟨rfl,rfl⟩
noncomputable def qol (s:Skip) (key:ByteArray):Nat→List Int
 | 0=>[]
 | k+1=>qol s key k++[nxt s (bef s key k) k]
theorem qwu (s:Skip) (key:ByteArray):∀ k,(qol s key k).length=k
 | 0=>rfl
 | k+1=>by simp[qol,qwu s key k]
theorem qbm6 (s:Skip) (key:ByteArray):∀ (k j:Nat),j<k→(qol s key k).getD j 0=nxt s (bef s key j) j
 | 0,_,h=>by omega
 | k+1,j,h=>by
  simp only[qol]
  by_cases e:j=k
  ·subst e
   simp[List.getD,qwu]
  ·have:=qbm6 s key k j (by omega)
   have hl:=qwu s key k
   rw[←this]
   simp[List.getD,List.getElem?_append_left (by omega:j<(qol s key k).length)]
def base (s:Skip) (key:ByteArray) (v:List Int):Skip:=(s.1,s.2.1++[(key,v,())],())
noncomputable def putK (s:Skip) (key:ByteArray) (v:List Int):Nat→Skip
 | 0=>base s key v
 | k+1=>lnk (putK s key v k) (bef s key k) k s.2.1.length
theorem qbb9 {s:Skip} {key:ByteArray} {v:List Int} {p:Int} (h0:0≤p):qj (base s key v) p=if p=s.2.1.length then (key,v,()) else qj s p:=by
 show (s.2.1++[(key,v,())]).getD p.toNat dl=_
 by_cases e:p=s.2.1.length
 ·subst e
  rw[if_pos rfl,Int.toNat_natCast];simp[List.getD]
 ·rw[if_neg e]
  unfold qj
  by_cases h:p.toNat<s.2.1.length
  ·simp[List.getD,List.getElem?_append_left h]
  ·simp[List.getD,List.getElem?_append_right (by omega:s.2.1.length≤p.toNat),List.getElem?_eq_none (by omega:s.2.1.length≤p.toNat),show ¬ (p.toNat - s.2.1.length=0) by omega]
structure PutKOk (s:Skip) (key:ByteArray) (v:List Int) (k:Nat) (a:Skip):Prop where
 heads:a.1.length=s.1.length
 len:a.2.1.length=s.2.1.length+1
 keys:∀ p:Int,0≤p→p<s.2.1.length→(qj a p).1=(qj s p).1∧(qj a p).2.1.length=(qj s p).2.1.length
 new:qj a s.2.1.length=(key,v,())
 nx:∀ (j:Nat) (p:Int),qlx s p j→nxt a p j=if j<k∧p=bef s key j then (s.2.1.length:Int) else nxt s p j
theorem PutKOk.on {s:Skip} {key:ByteArray} {v:List Int} {k:Nat} {a:Skip} (h:PutKOk s key v k a) {p:Int} {j:Nat} (hp:qlx s p j):qlx a p j:=
 hp.imp id fun ⟨h1,h2,h3⟩=>⟨h1,by rw[h.len];omega,by rw[(h.keys p h1 h2).2];exact h3⟩
theorem qbg3 {s:Skip} (h:okP s) (key:ByteArray) {j:Nat} (hj:j<4):qlx s (bef s key j) j:=qbbj (qbul h key hj)
theorem q8e {s:Skip} (hs:okP s) (key:ByteArray) (v:List Int):∀ k,k≤4→PutKOk s key v k (putK s key v k)
 | 0,_=>by
  refine ⟨rfl,by simp[putK,base],fun p h0 h1=>?_,?_,fun j p hp=>?_⟩
  ·simp only[putK];rw[qbb9 h0,if_neg (by omega)];exact ⟨rfl,rfl⟩
  ·simp only[putK];rw[qbb9 (by omega),if_pos rfl]
  ·rw[if_neg (fun k=>by omega)]
   simp only[putK]
   by_cases e:p = -1
   ·subst e;rfl
   ·obtain ⟨h1,h2,h3⟩:=hp.resolve_left e
    unfold nxt
    rw[if_neg e,if_neg e,qbb9 h1,if_neg (by omega)]
 | k+1,hk=>by
  have ih:=q8e hs key v k (by omega)
  have hb:=qbg3 hs key (j:=k) (by omega)
  have hb':=ih.on hb
  have hne:bef s key k≠(s.2.1.length:Int):=by rcases hb with h | h<;>omega
  simp only[putK]
  refine ⟨by rw[qbvc];exact ih.heads,by rw[qbyv];exact ih.len,fun p h0 h1=>?_,?_,fun j p hp=>?_⟩
  ·obtain ⟨k1,k2⟩:=qbyw (to:=(s.2.1.length:Int)) hb' h0
   rw[k1,k2];exact ih.keys p h0 h1
  ·rw[qbfu hb' (by omega),if_neg (fun k=>hne k.symm)];exact ih.new
  ·rw[qbx7 (by rw[ih.heads,hs.1];omega) hb' (by rcases hp with h | h;exact .inl h;exact .inr h.1),ih.nx j p hp]
   by_cases e:j=k
   ·subst e
    by_cases e2:p=bef s key j
    ·rw[if_pos ⟨e2,rfl⟩,if_pos ⟨by omega,e2⟩]
    ·rw[if_neg (fun h=>e2 h.1),if_neg (fun h=>e2 h.2),if_neg (fun h=>e2 h.2)]
   ·rw[if_neg (fun h=>e h.2)]
    by_cases e2:j<k∧p=bef s key j
    ·rw[if_pos e2,if_pos ⟨by omega,e2.2⟩]
    ·rw[if_neg e2,if_neg (fun h=>e2 ⟨by omega,h.2⟩)]
noncomputable def qj1 (s:Skip) (key:ByteArray):Skip:=putK s key (qol s key (qbv key)) (qbv key)
theorem qbzj {s:Skip} (hs:okP s) (key:ByteArray):Put s key (qj1 s key):=by
 have hr:=qj0 key
 have h:=q8e hs key (qol s key (qbv key)) (qbv key) hr.2
 refine ⟨by rw[show qj1 s key=putK s key (qol s key (qbv key)) (qbv key) from rfl,h.heads,hs.1],h.len,h.keys,by rw[show qj1 s key=putK s key (qol s key (qbv key)) (qbv key) from rfl,h.new],by rw[show qj1 s key=putK s key (qol s key (qbv key)) (qbv key) from rfl,h.new];exact qwu ..,fun j p hj hp=>h.nx j p hp,fun j hj=>?_⟩
 unfold nxt
 rw[if_neg (by omega),show qj1 s key=putK s key (qol s key (qbv key)) (qbv key) from rfl,h.new]
 show (qol s key (qbv key)).getD j 0=_
 rw[qbm6 s key _ j hj]
 rfl
theorem qbe9 {X:Ext} (hX:XOk X) (N n:Nat) (hN:1≤N) (K0:ByteArray→Int→Skip→Skip→List Int→Lane→Option ((Skip×Bool×Unit)×Unit)) (s z:Skip) (hs:okP s) (key:ByteArray) (h:Nat) (hh:h≤4) (b:List Int) (hb:b.length=4) (hbef:∀ i,i<4→b.getD i 0=bef s key i) (q:Int) :
  ∀ (d j m:Nat),j+d=h→d<m→qgd (DD X N) n K0 m key q h j s z b (key,qol s key j,())=K0 key q s z b (key,qol s key h,())
 | _,_,0,_,h=>by omega
 | 0,j,m+1,hj,_=>by
  simp only[qgd,qrt]
  rw[qp (by omega)]
  obtain rfl:j=h:=by omega
  rfl
 | d+1,j,m+1,hj,hm=>by
  simp only[qgd,qrt]
  have hbd:=qco
  have hl:=qwu s key j
  rw[qk (by omega),ix (by omega),br_t,Int.toNat_natCast,hbef j (by omega)]
  rw[show (s.1,s.2.1,())=s from rfl,qbdl hX hN s _ j (by rw[hs.1];omega) (qbg3 hs key (by omega)),qf,qk (by omega),qr (by omega)]
  exact qbe9 hX N n hN K0 s z hs key h hh b hb hbef q d (j+1) m (by omega) (by omega)
theorem qbe3 {X:Ext} (hX:XOk X) (N n:Nat) (hN:1≤N) (K0:Skip→Skip→Option ((Skip×Bool×Unit)×Unit)) (s z:Skip) (hs:okP s) (key:ByteArray) (v:List Int) (h:Nat) (hh:h≤4) (b:List Int) (hb:b.length=4) (hbef:∀ i,i<4→b.getD i 0=bef s key i) :
  ∀ (d j m:Nat),j+d=h→d<m→qhr (DD X N) n K0 m s.2.1.length h j (putK s key v j) z b=K0 (putK s key v h) z
 | _,_,0,_,h=>by omega
 | 0,j,m+1,hj,_=>by
  simp only[qhr,qsk]
  rw[qp (by omega)]
  obtain rfl:j=h:=by omega
  rfl
 | d+1,j,m+1,hj,hm=>by
  simp only[qhr,qsk]
  have ho:=q8e hs key v j (by omega)
  rw[qk (by omega),ix (by omega),br_t,Int.toNat_natCast,hbef j (by omega),qbze hX hN _ _ j _ (by rw[ho.heads,hs.1];omega) (ho.on (qbg3 hs key (by omega))),qf,qr (by omega)]
  exact qbe3 hX N n hN K0 s z hs key v h hh b hb hbef d (j+1) m (by omega) (by omega)
def qbqt (s:Skip) (key:ByteArray):Prop:=∃ x∈L s 0,(qj s x).1=key
noncomputable def qy6 (s:Skip) (key:ByteArray):List Int→Int
 | []=>-1
 | x::l=>if klt (qj s x).1 key then qy6 s key l else x
theorem qbnb {s:Skip} {key:ByteArray}:∀ (l:List Int) (a:Int),path s 0 (nxt s a 0) l→(∀ x∈l,x≠-1)→l.Pairwise (fun x y=>klt (qj s x).1 (qj s y).1)→nxt s (qd5 s key a l) 0=qy6 s key l
 | [],a,h,_,_=>h
 | x::l,a,h,hl,hw=>by
  obtain ⟨h1,h2,h3⟩:=h
  obtain ⟨w1,w2⟩:=List.pairwise_cons.1 hw
  simp only[qd5,qy6]
  by_cases e:klt (qj s x).1 key
  ·rw[if_pos e,if_pos e]
   have ex:nxt s x 0=(qj s x).2.1.getD 0 0:=by unfold nxt;rw[if_neg (hl x (List.mem_cons_self ..))]
   exact qbnb l x (by rw[ex];exact h3) (fun y hy=>hl y (List.mem_cons_of_mem _ hy)) w2
  ·rw[if_neg e,if_neg e,qbb3 l (fun y hy k=>e (qtm (w1 y hy) k)),h1]
theorem qbmk {s:Skip} {key:ByteArray}:∀ (l:List Int),l.Pairwise (fun x y=>klt (qj s x).1 (qj s y).1)→(∀ x∈l,0≤x)→((∃ x∈l,(qj s x).1=key)↔qy6 s key l≠-1∧(qj s (qy6 s key l)).1=key)
 | [],_,_=>by simp[qy6]
 | x::l,hw,hl=>by
  obtain ⟨w1,w2⟩:=List.pairwise_cons.1 hw
  have h0:=hl x (List.mem_cons_self ..)
  simp only[qy6]
  by_cases e:klt (qj s x).1 key
  ·rw[if_pos e,←qbmk l w2 (fun y hy=>hl y (List.mem_cons_of_mem _ hy))]
   constructor
   ·rintro ⟨y,hy,k⟩
    rcases List.mem_cons.1 hy with rfl | hy
    ·rw[k] at e;exact absurd e (q30 _)
    ·exact ⟨y,hy,k⟩
   ·rintro ⟨y,hy,k⟩;exact ⟨y,List.mem_cons_of_mem _ hy,k⟩
  ·rw[if_neg e]
   constructor
   ·rintro ⟨y,hy,k⟩
    rcases List.mem_cons.1 hy with rfl | hy
    ·exact ⟨by omega,k⟩
    ·exact absurd (k ▸ w1 y hy) e
   ·rintro ⟨_,k⟩;exact ⟨x,List.mem_cons_self ..,k⟩
theorem qbyb {s:Skip} (hs:okP s) (key:ByteArray):qbqt s key↔nxt s (bef s key 0) 0≠-1∧(qj s (nxt s (bef s key 0) 0)).1=key:=by
 have hi:=qgr s 0
 have hp:=qbik (hs.2.2.1 0 (by omega))
 have e:nxt s (-1) 0=s.1.getD 0 0:=rfl
 rw[qbqp hs key (by omega),qbnb (L s 0) (-1) (by rw[e];exact hp) (fun x hx=>by have:=(hi.rng x hx).1;omega) hi.pw]
 exact qbmk _ hi.pw (fun x hx=>(hi.rng x hx).1)
noncomputable def putR (s:Skip) (key:ByteArray):Skip×Bool×Unit:=
 if okP s∧key.size≤40∧s.2.1.length<40∧¬ qbqt s key then (qj1 s key,true,()) else (s,false,())
theorem qbng {X:Ext} (hX:XOk X) {n:Nat} (hn:W+3≤n) (s:Skip) (hs:Small 1048576 s) (hk:∀ x∈s.2.1,x.1.size≤maxLen) (key:ByteArray) (hkey:key.size≤maxLen):qo0 (DD X n) s key=some ((putR s key),()):=by
 obtain ⟨n,rfl⟩:∃ k,n=k+1:=⟨n - 1,by omega⟩
 have hW:=qbt
 have hbd:=qco
 have hs1:=hs.2.1
 rw[qbkg hX]
 simp only[q01,qz6,qwk]
 rw[qbsr hX (by omega) s hs,qf]
 dsimp only
 rw[show (s.1,s.2.1,())=s from rfl,qbb2 hX (by omega) s hs1 hk,qf]
 dsimp only
 unfold putR
 by_cases h:okP s
 ·rw[decide_eq_true h,Bool.not_true,cond_false]
  by_cases hk40:key.size≤40
  ·rw[decide_eq_false (by omega:¬ ((key.size:Int)>40)),cond_false]
   by_cases hl40:s.2.1.length=40
   ·rw[qk (by omega),if_neg (fun k=>by omega)]
   ·have h40:=h.2.1
    rw[qp (by omega)]
    obtain ⟨b,i1,i2,i3⟩:=qbya hX (n:=n) (by omega) s h key
    have e0:List.getD b 0 0=bef s key 0:=i2 0 (by omega)
    have ec:=qbdl hX (n:=n) (by omega) s (bef s key 0) 0 (by rw[h.1];omega) (qbbj (qbul h key (by omega)))
    rw[show ((0:Nat):Int)=0 from rfl] at ec
    rw[i3,qf]
    dsimp only
    have e4:(decide ((0:Nat)≤0)&&decide ((0:Int)<(b.length:Int)))=true:=by rw[i1];rfl
    rw[e4,br_t,e0,ec,qf]
    dsimp only
    have hr:=qj0 key
    have tail:(qi (qhu (DD X n) key) fun b_4=>qgd (DD X n) n (fun v0_0 v0_1 v0_2 v0_3 v0_4 v0_5=>qky (DD X n) n (qlw (DD X n) n) v0_0 v0_1 v0_2 v0_3 v0_4 v0_5) n key (s.2.1.length:Int) b_4.1.1 0 s ([],[],()) b (key,[],()))=some ((qj1 s key,true,()),()):=by
     rw[q5v hX (by omega) key hkey,qf]
     dsimp only
     have:=qbe9 hX n n (by omega) (fun v0_0 v0_1 v0_2 v0_3 v0_4 v0_5=>qky (DD X n) n (qlw (DD X n) n) v0_0 v0_1 v0_2 v0_3 v0_4 v0_5) s ([],[],()) h key (qbv key) hr.2 b i1 i2 (s.2.1.length:Int) (qbv key) 0 n (by omega) (by omega)
     rw[show ((0:Nat):Int)=0 from rfl] at this
     refine Eq.trans this ?_
     simp only[qky]
     rw[qk (by omega),q5v hX (by omega) key hkey,qf]
     simp only[qlw]
     have:=qbe3 hX n n (by omega) (fun v0_0 v0_1=>qun (DD X n) n v0_0 v0_1) s ([],[],()) h key (qol s key (qbv key)) (qbv key) hr.2 b i1 i2 (qbv key) 0 n (by omega) (by omega)
     rw[show ((0:Nat):Int)=0 from rfl] at this
     refine Eq.trans this ?_
     rfl
    have hh:=qbyb h key
    by_cases hn1:nxt s (bef s key 0) 0 = -1
    ·have e5:(nxt s (bef s key 0) 0 != -1)=false:=by rw[hn1];rfl
     rw[e5,br_f,if_pos ⟨h,hk40,by omega,fun k=>(hh.1 k).1 hn1⟩]
     exact tail
    ·have e5:(nxt s (bef s key 0) 0 != -1)=true:=by rw[bne_iff_ne];exact hn1
     have hm:=(qbzo h key).resolve_left hn1
     have hrg:=(qgr s 0).rng _ hm
     rw[e5,br_t,ixn hrg.1 hrg.2,br_t,qj4,show List.getD s.2.1 (Int.toNat (nxt s (bef s key 0) 0)) (ByteArray.empty,[],())=qj s (nxt s (bef s key 0) 0) from rfl]
     by_cases hke:(qj s (nxt s (bef s key 0) 0)).1=key
     ·rw[qk hke,if_neg (fun k=>k.2.2.2 (hh.2 ⟨hn1,hke⟩))]
     ·rw[qp hke,if_pos ⟨h,hk40,by omega,fun k=>hke (hh.1 k).2⟩]
      exact tail
  ·rw[decide_eq_true (by omega:(key.size:Int)>40),cond_true,br_t,if_neg (fun k=>hk40 k.2.1)]
 ·rw[decide_eq_false h,Bool.not_false,cond_true,cond_true,br_t,if_neg (fun k=>h k.1)]
end
section
open Classical
open Classical
theorem qbsy {s:Skip} (hs:okP s) {b:Nat} (hb:40<b) (hsm:Small b s) (key:ByteArray) (v:List Int) (hv:v.length≤b):∀ k,k≤4→Small b (putK s key v k):=by
 intro k hk
 have h:=q8e hs key v k hk
 have h40:=hs.2.1
 refine ⟨by rw[h.heads];exact hsm.1,by rw[h.len];omega,fun x hx=>?_⟩
 obtain ⟨i,hi,rfl⟩:=List.mem_iff_getElem.1 hx
 have e:(putK s key v k).2.1[i]=qj (putK s key v k) (i:Int):=by
  unfold qj;rw[Int.toNat_natCast,qz hi]
 rw[h.len] at hi
 rw[e]
 by_cases h1:i<s.2.1.length
 ·rw[(h.keys i (by omega) (by omega)).2]
  have:qj s (i:Int)∈s.2.1:=by unfold qj;rw[Int.toNat_natCast,qz h1];exact List.getElem_mem _
  exact hsm.2.2 _ this
 ·have e2:i=s.2.1.length:=by omega
  subst e2
  rw[h.new];exact hv
theorem qbvm {s:Skip} (hs:okP s) (key:ByteArray) (v:List Int) {b:Nat} (hk:∀ x∈s.2.1,x.1.size≤b) (hkey:key.size≤b):∀ k,k≤4→∀ x∈(putK s key v k).2.1,x.1.size≤b:=by
 intro k hk4 x hx
 have h:=q8e hs key v k hk4
 obtain ⟨i,hi,rfl⟩:=List.mem_iff_getElem.1 hx
 have e:(putK s key v k).2.1[i]=qj (putK s key v k) (i:Int):=by
  unfold qj;rw[Int.toNat_natCast,qz hi]
 rw[h.len] at hi
 rw[e]
 by_cases h1:i<s.2.1.length
 ·rw[(h.keys i (by omega) (by omega)).1]
  have:qj s (i:Int)∈s.2.1:=by unfold qj;rw[Int.toNat_natCast,qz h1];exact List.getElem_mem _
  exact hk _ this
 ·have e2:i=s.2.1.length:=by omega
  subst e2
  rw[h.new];exact hkey
theorem qbvo {s:Skip} (hs:okP s) {b:Nat} (hb:40<b) (hsm:Small b s) (key:ByteArray):Small b (qj1 s key):=by
 have hr:=qj0 key
 exact qbsy hs hb hsm key _ (by rw[qwu];omega) _ hr.2
theorem qbwq {s:Skip} (hs:okP s) (key:ByteArray) {b:Nat} (hk:∀ x∈s.2.1,x.1.size≤b) (hkey:key.size≤b):∀ x∈(qj1 s key).2.1,x.1.size≤b:=
 qbvm hs key _ hk hkey _ (qj0 key).2
theorem qbth {s:Skip} {b:Nat} (hb:40<b) (hsm:Small b s) (key:ByteArray):Small b (putR s key).1:=by
 unfold putR
 split
 ·rename_i h;exact qbvo h.1 hb hsm key
 ·exact hsm
end
section
open Classical
open Classical
def qpg:Skip:=([-1,-1,-1,-1],[],())
theorem qbnx {X:Ext} (hX:XOk X) {n:Nat} (hn:1≤n):q0k (DD X n)=some ((qpg,()),()):=by
 obtain ⟨n,rfl⟩:∃ k,n=k+1:=⟨n - 1,by omega⟩
 rw[qbkv hX];rfl
theorem qbwb {b:Nat} (hb:4≤b):Small b qpg:=⟨hb,Nat.zero_le _,fun x hx=>by simp[qpg] at hx⟩
theorem qboy {j:Nat} (hj:j<4):lane qpg j=some []:=by
 have e:qpg.1.getD j 0 = -1:=by
  rcases (by omega:j=0∨j=1∨j=2∨j=3) with rfl | rfl | rfl | rfl<;>rfl
 unfold lane
 rw[e,show qpg.2.1.length+1=0+1 from rfl,qjv,if_pos rfl]
theorem qbzz {j:Nat} (hj:j<4):L qpg j=[]:=by unfold L;rw[qboy hj];rfl
theorem qbmn:okP qpg:=⟨rfl,Nat.zero_le _,fun j hj=>by rw[qboy hj];rfl,fun k hk=>absurd hk (Nat.not_lt_zero _)⟩
end
end Go.G

/- The row FnWaysAreSkips holds: for all bytes the law returns true and the argument reads as before. No condition. -/
namespace Go.G
set_option linter.unusedVariables false
set_option linter.unusedSimpArgs false
set_option maxRecDepth 100000
open Go Go.V Go.Proofs

def cat (w:Way):ByteArray:=ByteArray.append w.1 w.2.1
theorem qbw7 (w:Way):(cat w).size=w.1.size+w.2.1.size:=ByteArray.size_append
theorem qbpi (w:Way):(cat w).toList=w.1.toList++w.2.1.toList:=by
 simp only[ByteArray.toList_eq]
 show ((w.1++w.2.1).data).toList=_
 rw[ByteArray.data_append,Array.toList_append]
theorem qbqc:∀ (A B:List UInt8),A<B→(∃ E,B=A++E)∨∀ C D,A++C<B++D
 | [],B,_=>.inl ⟨B,rfl⟩
 | a::A,[],h=>absurd h (List.not_lt_nil _)
 | a::A,b::B,h=>by
  rcases List.cons_lt_cons_iff.1 h with h1 | ⟨e1,h2⟩
  ·exact .inr fun C D=>List.cons_lt_cons_iff.2 (.inl h1)
  ·subst e1
   rcases qbqc A B h2 with ⟨E,rfl⟩ | k
   ·exact .inl ⟨E,rfl⟩
   ·exact .inr fun C D=>List.cons_lt_cons_iff.2 (.inr ⟨rfl,k C D⟩)
theorem qbr2:∀ (A:List UInt8) {C D:List UInt8},C<D→A++C<A++D
 | [],_,_,h=>h
 | a::A,_,_,h=>List.cons_lt_cons_iff.2 (.inr ⟨rfl,qbr2 A h⟩)
theorem qbo4:∀ {a b:Row} {R R':List Int},a.length=b.length→(∀ v∈a,qc3 v=true)→(∀ v∈b,qc3 v=true)→a.flatMap qbu++R=b.flatMap qbu++R'→a=b
 | [],[],_,_,_,_,_,_=>rfl
 | [],_::_,_,_,h,_,_,_=>by simp at h
 | _::_,[],_,_,h,_,_,_=>by simp at h
 | x::a,y::b,R,R',hl,ha,hb,h=>by
  rw[List.flatMap_cons,List.flatMap_cons,List.append_assoc,List.append_assoc] at h
  obtain ⟨e1,e2⟩:=qbud (ha x (by simp)) (hb y (by simp)) h
  rw[e1,qbo4 (by simpa using hl) (fun v hv=>ha v (by simp[hv])) (fun v hv=>hb v (by simp[hv])) e2]
theorem qxj (l:List Int):(qo8 l).toList=l.map fun n=>UInt8.ofNat (Int.toNat n):=by
 rw[ByteArray.toList_eq];rfl
theorem q8r (a:Row):(qfb a).length≤172:=by
 unfold qfb
 split
 ·rename_i h
  obtain ⟨h1,h2⟩:=qvd h
  have:∀ b:Row,(∀ v∈b,qc3 v=true)→(b.flatMap qbu).length≤43 * b.length:=by
   intro b
   induction b with
   | nil=>intro _;simp
   | cons v b ih=>
    intro hb
    have h1:=q8u (hb v (by simp))
    have h2:=ih fun v hv=>hb v (by simp[hv])
    rw[List.flatMap_cons,List.length_append,List.length_cons];omega
  have:=this a h2
  omega
 ·simp
theorem qbbi (l:List Int):(qo8 l).size=l.length:=by
 show (List.toArray (List.map _ l)).size=_
 simp
theorem qbtc (s:qbc) (i:Nat) (row:Row):(qsh s i row).1.size≤172∧(qsh s i row).2.1.size≤172:=by
 unfold qsh
 rw[qbbi,qbbi]
 exact ⟨q8r _,q8r _⟩
theorem qbr9 {s:qbc} {x:Row} (h:qjp s x=true):x.length=s.1.length:=by
 simp only[qjp,Bool.and_eq_true,decide_eq_true_eq] at h
 exact h.2.1
theorem qbx1 {s:qbc} (h:qe5 s=true) {i:Nat} (hi:i<s.2.2.1.length):(s.2.2.1.getD i xd).2.1.length≤3:=by
 simp only[qe5,Bool.and_eq_true,Bool.not_eq_true'] at h
 have:=qbj.1 h.2.1 i (by omega) (by omega)
 simp only[qpv,Bool.or_eq_false_iff,Bool.not_eq_false'] at this
 have:=this.2.1
 simp only[qcr,Bool.and_eq_true,inR,decide_eq_true_eq] at this
 omega
/-- the texts of two ways stand as the ways -/
theorem qbzk {s:qbc} {i:Nat} (hi:i<s.2.2.1.length) {x y:Row} (hx:qjp s x=true) (hy:qjp s y=true) (h:wlt (qsh s i x) (qsh s i y)=true):klt (cat (qsh s i x)) (cat (qsh s i y)):=by
 unfold klt
 rw[qtu,decide_eq_true_eq,qbpi,qbpi]
 rcases (qbdo _ _).1 h with h | ⟨h,h2⟩
 ·rcases qbqc _ _ h with ⟨E,e⟩ | k
  ·exfalso
   have hs:qe5 s=true:=by simp only[qjp,Bool.and_eq_true] at hx;exact hx.1
   have hc:=qbx1 hs hi
   have lx:=qhm x (s.2.2.1.getD i xd).2.1
   have ly:=qhm y (s.2.2.1.getD i xd).2.1
   have tx:=qbjo (a:=ql x (s.2.2.1.getD i xd).2.1) (by omega) fun v hv=>q9e hx v (q7c v hv)
   have ty:=qbjo (a:=ql y (s.2.2.1.getD i xd).2.1) (by omega) fun v hv=>q9e hy v (q7c v hv)
   have hl:(ql x (s.2.2.1.getD i xd).2.1).length=(ql y (s.2.2.1.getD i xd).2.1).length:=by
    unfold ql
    rw[List.length_map,List.length_map,qbr9 hx,qbr9 hy]
   have e':(qo8 (qfb (ql y (s.2.2.1.getD i xd).2.1))).toList=(qo8 (qfb (ql x (s.2.2.1.getD i xd).2.1))).toList++E:=e
   have h':(qo8 (qfb (ql x (s.2.2.1.getD i xd).2.1))).toList<(qo8 (qfb (ql y (s.2.2.1.getD i xd).2.1))).toList:=h
   have bt:∀ c:Row,Byt (c.flatMap qbu):=fun c z hz=>by
    obtain ⟨v,_,hv⟩:=List.mem_flatMap.1 hz
    exact qbkl v z hv
   have tbx:qfb (ql x (s.2.2.1.getD i xd).2.1)=(ql x (s.2.2.1.getD i xd).2.1).flatMap qbu:=by unfold qfb;rw[if_pos tx]
   have tby:qfb (ql y (s.2.2.1.getD i xd).2.1)=(ql y (s.2.2.1.getD i xd).2.1).flatMap qbu:=by unfold qfb;rw[if_pos ty]
   rw[tbx,tby,qxj,qxj] at e'
   have cut:(ql x (s.2.2.1.getD i xd).2.1).flatMap qbu=((ql y (s.2.2.1.getD i xd).2.1).flatMap qbu).take ((ql x (s.2.2.1.getD i xd).2.1).flatMap qbu).length:=by
    refine qbqz (bt _) (fun z hz=>bt _ z (List.mem_of_mem_take hz)) (q1l ?_)
    rw[qxj,qxj,List.map_take,e',List.take_append_of_le_length (by rw[List.length_map];exact Nat.le_refl _),List.take_of_length_le (by rw[List.length_map];exact Nat.le_refl _)]
   have e2:(ql x (s.2.2.1.getD i xd).2.1).flatMap qbu++((ql y (s.2.2.1.getD i xd).2.1).flatMap qbu).drop ((ql x (s.2.2.1.getD i xd).2.1).flatMap qbu).length=(ql y (s.2.2.1.getD i xd).2.1).flatMap qbu++[]:=by
    rw[List.append_nil]
    have q:=List.take_append_drop ((ql x (s.2.2.1.getD i xd).2.1).flatMap qbu).length ((ql y (s.2.2.1.getD i xd).2.1).flatMap qbu)
    rw[←cut] at q
    exact q
   have hxy:=qbo4 hl (qvd tx).2 (qvd ty).2 e2
   rw[hxy] at h'
   exact List.lt_irrefl _ h'
  ·exact k _ _
 ·rw[h];exact qbr2 _ h2
theorem qby1 {r:Rel} (hok:qdo r=true) {i:Nat} (hi:i<r.1.2.2.1.length):(qlv r (i:Int)).Pairwise fun a b=>klt (cat a) (cat b):=by
 have hs:=qbvr r (i:Int)
 refine List.pairwise_iff_getElem.2 fun a b ha hb hab=>?_
 have h:=List.pairwise_iff_getElem.1 hs a b ha hb hab
 obtain ⟨x,hx,ex⟩:=(qbqr hok hi _).1 (List.getElem_mem ha)
 obtain ⟨y,hy,ey⟩:=(qbqr hok hi _).1 (List.getElem_mem hb)
 have hr:=((qwt r).1 hok).2.2.1
 rw[ex,ey] at h ⊢
 exact qbzk hi (hr x hx) (hr y hy) h
open Classical
/-- what is put ahead of all stands first -/
theorem qbwx {s:Skip} (hs:okP s) (hl:s.2.1.length<40) {key:ByteArray} (h:∀ k∈keys s,klt key k):¬ qbqt s key∧okP (qj1 s key)∧keys (qj1 s key)=key::keys s∧(qj1 s key).2.1.length=s.2.1.length+1:=by
 have hk:keys s=(L s 0).map fun p=>(qj s p).1:=by unfold keys;rw[if_pos hs]
 have hnode:∀ x∈L s 0,klt key (qj s x).1:=fun x hx=>h _ (by rw[hk];exact List.mem_map.2 ⟨x,hx,rfl⟩)
 have hnew:∀ x∈L s 0,(qj s x).1≠key:=fun x hx e=>q30 key (by have:=hnode x hx;rw[e] at this;exact this)
 have hP:=qbzj hs key
 have hok:=(qbvf hs hP hnew).2 (by omega)
 have hL:L (qj1 s key) 0=(s.2.1.length:Int)::L s 0:=by
  have e:=qbm5 (qbgc hs hP hnew (j:=0) (by omega))
  rw[if_pos (by have:=qj0 key;omega)] at e
  rw[e]
  cases hl0:L s 0 with
  | nil=>rfl
  | cons x l=>
   have:=hnode x (by rw[hl0];simp)
   simp only[ins]
   rw[if_neg (qbuy this)]
 refine ⟨fun ⟨x,hx,e⟩=>hnew x hx e,hok,?_,hP.len⟩
 have hk2:keys (qj1 s key)=(L (qj1 s key) 0).map fun p=>(qj (qj1 s key) p).1:=by unfold keys;rw[if_pos hok]
 rw[hk2,hL,hk,List.map_cons,hP.nkey]
 refine congrArg _ (List.map_congr_left fun x hx=>?_)
 obtain ⟨x0,x1⟩:=(qgr s 0).rng x hx
 exact (hP.keys x x0 x1).1
structure SkI (l:List Way) (k:Nat) (short:Bool) (s:Skip):Prop where
 small:Small 1048576 s
 ksz:∀ x∈s.2.1,x.1.size≤1048576
 good:short=true→okP s∧keys s=(l.drop k).map cat∧s.2.1.length=l.length - k
theorem qbys {l:List Way} {k:Nat} {short:Bool} {s:Skip} (h:SkI l k short s) {key:ByteArray} (hk:key.size≤1048576) {j:Nat} {b:Bool} (hb:b=true→okP (putR s key).1∧keys (putR s key).1=(l.drop j).map cat∧(putR s key).1.2.1.length=l.length - j):SkI l j b (putR s key).1:=by
 refine ⟨qbth (by omega) h.small key,fun x hx=>?_,hb⟩
 unfold putR at hx
 split at hx
 ·rename_i hc
  exact qbwq hc.1 key h.ksz hk x hx
 ·exact h.ksz x hx
theorem qbvq {X:Ext} (hX:XOk X) (N n:Nat) (hN:W+3≤N) (K:Int→Bool→Rel→List Way→Skip→Option ((Bool×Unit)×Unit)) (r:Rel) (i:Int) (l:List Way) (h12:l.length≤12) (hsz:∀ w∈l,w.1.size≤172∧w.2.1.size≤172) (hpw:l.Pairwise fun a b=>klt (cat a) (cat b)) :
  ∀ (m k:Nat) (short:Bool) (s:Skip),k≤l.length→k<m→SkI l k short s→∃ (b:Bool) (t:Skip),SkI l 0 b t∧qdu (DD X N) n K m i short ((k:Int) - 1) r l s=K i b r l t
 | 0,_,_,_,_,h,_=>by omega
 | m+1,k,short,s,hk,hf,hi=>by
  have hd:=qch
  simp only[qdu,qno,qbab]
  cases k with
  | zero=>
   rw[qp (by omega)]
   exact ⟨short,s,hi,rfl⟩
  | succ j=>
   have hj:j<l.length:=by omega
   have e1:(((j+1:Nat):Int) - 1)=(j:Int):=by omega
   have e2:IntKind.wrap IntKind.i64 ((j:Int) - 1)=(j:Int) - 1:=qby (by omega) (by omega)
   have hw:=hsz _ (qck (d:=wd) hj)
   have hw2:(l.getD j (ByteArray.empty,ByteArray.empty,())).1.size≤172∧(l.getD j (ByteArray.empty,ByteArray.empty,())).2.1.size≤172:=hw
   have h47:Nat.pow 2 47=140737488355328:=rfl
   have hcs:(cat (l.getD j wd)).size=(l.getD j wd).1.size+(l.getD j wd).2.1.size:=qbw7 _
   have hcs2:(cat (l.getD j wd)).size=(l.getD j (ByteArray.empty,ByteArray.empty,())).1.size+(l.getD j (ByteArray.empty,ByteArray.empty,())).2.1.size:=hcs
   have hp:=qbng hX (n:=N) hN s hi.small (fun x hx=>by have:=hi.ksz x hx;omega) (cat (l.getD j wd)) (by omega)
   have hp':qo0 (DD X N) s (ByteArray.append (l.getD j wd).1 (l.getD j wd).2.1)=some ((putR s (cat (l.getD j wd))),()):=hp
   rw[e1,qk (by omega),ix hj,Int.toNat_natCast,e2,qby (by omega) (by omega)]
   have go:∀ b:Bool,(b=true→okP (putR s (cat (l.getD j wd))).1∧keys (putR s (cat (l.getD j wd))).1=(l.drop j).map cat∧(putR s (cat (l.getD j wd))).1.2.1.length=l.length - j)→
     ∃ (b':Bool) (t:Skip),SkI l 0 b' t∧qdu (DD X N) n K m i b ((j:Int) - 1) r l (putR s (cat (l.getD j wd))).1=K i b' r l t:=fun b hb=>
    qbvq hX N n hN K r i l h12 hsz hpw m j b _ (by omega) (by omega) (qbys hi (by omega) hb)
   have hpow:decide ((l.getD j wd).1.size+(l.getD j wd).2.1.size≤Nat.pow 2 47)=true:=decide_eq_true (by omega)
   cases short
   ·simp only[br_t,br_f,hpow,hp',qf]
    exact go false (fun h=>nomatch h)
   ·simp only[br_t,br_f,hpow,hp',qf]
    refine go _ fun h=>?_
    have h40:(cat (l.getD j wd)).size≤40:=by
     have:=of_decide_eq_true h
     omega
    obtain ⟨g1,g2,g3⟩:=hi.good rfl
    have hlt:∀ k∈keys s,klt (cat (l.getD j wd)) k:=fun k hk=>by
     rw[g2] at hk
     obtain ⟨w,hw,rfl⟩:=List.mem_map.1 hk
     obtain ⟨q,hq,hqj,rfl⟩:=q7e hw
     rw[qz hj]
     exact List.pairwise_iff_getElem.1 hpw j q hj hq (by omega)
    obtain ⟨p1,p2,p3,p4⟩:=qbwx g1 (by omega) hlt
    have ep:putR s (cat (l.getD j wd))=(qj1 s (cat (l.getD j wd)),true,()):=by unfold putR;rw[if_pos ⟨g1,h40,by omega,p1⟩]
    rw[ep]
    refine ⟨p2,?_,by rw[p4,g3];omega⟩
    rw[p3,g2,List.drop_eq_getElem_cons hj,List.map_cons,qz hj]
theorem qbsj {X:Ext} (N n:Nat) (K0:Bool→Int→Rel→Option ((Bool×Unit)×Unit)) (K1:Int→Rel→Option ((Bool×Unit)×Unit)) (r:Rel) (i:Int) (l:List Way) (h12:l.length≤12) (hsz:∀ w∈l,w.1.size≤172∧w.2.1.size≤172) :
  ∀ (m k:Nat),l.length - k<m→qez (DD X N) n K0 K1 m i (k:Int) r l (l.map cat)=K1 i r
 | 0,_,h=>by omega
 | m+1,k,hf=>by
  simp only[qez,qnw]
  by_cases h:k<l.length
  ·have hm:k<(l.map cat).length:=by rw[List.length_map];exact h
   have hw:=hsz _ (qck (d:=wd) h)
   have hw2:(l.getD k (ByteArray.empty,ByteArray.empty,())).1.size≤172∧(l.getD k (ByteArray.empty,ByteArray.empty,())).2.1.size≤172:=hw
   have h47:Nat.pow 2 47=140737488355328:=rfl
   have hg:(l.map cat).getD k ByteArray.empty=ByteArray.append (l.getD k wd).1 (l.getD k wd).2.1:=by
    rw[qz hm,List.getElem_map,qz h];rfl
   rw[qk (by exact_mod_cast h),ix hm,br_t,ix h,br_t,br_t,Int.toNat_natCast,qk (by omega),hg,qj4,decide_eq_true rfl,Bool.not_true,br_f,qr (by omega)]
   exact qbsj N n K0 K1 r i l h12 hsz m (k+1) (by omega)
  ·rw[qp (by exact_mod_cast h)]
theorem qbon {X:Ext} (hC:XC X) (hWI:∀ n xs i ys,qcp (DD X (n+1)) xs i ys=(insW xs i ys).map fun r=>((r,()),())) (N n:Nat) (hN:W+12≤N) (hn:W≤n) (K0:Rel→Option ((Bool×Unit)×Unit)) (K1:Bool→Rel→Option ((Bool×Unit)×Unit)) (r:Rel) (hr:InvK r) :
  ∀ (m i:Nat),i≤r.1.2.2.1.length→r.1.2.2.1.length - i<m→qb1 (DD X N) n K0 K1 m (i:Int) r=K0 r
 | 0,_,_,h=>by omega
 | m+1,i,hi,hf=>by
  have hX:=hC.ok
  have hM:=qcn
  have hW:=qbt
  have hd:=qch
  have hsm:=hr.sm
  have h3:=hsm.sch.ixs
  have hR:=hr.inv.rows
  simp only[qb1,qn1,qbab]
  by_cases h:i<r.1.2.2.1.length
  ·have ih:=qbon hC hWI N n hN hn K0 K1 r hr m (i+1) (by omega) (by omega)
   have hlen:=qbs3 r (i:Int)
   have hsz:∀ w∈qlv r (i:Int),w.1.size≤172∧w.2.1.size≤172:=fun w hw=>by
    obtain ⟨x,_,rfl⟩:=(qbqr hr.ok h w).1 hw
    exact qbtc _ _ _
   rw[qk (by exact_mod_cast h),qbor hC hWI (by omega) r hsm (i:Int),qf]
   dsimp only
   rw[qbnx hX (by omega),qf]
   dsimp only
   rw[qby (by omega) (by omega)]
   simp only[qmb,qbab]
   have hnew:SkI (qlv r (i:Int)) (qlv r (i:Int)).length true qpg:=⟨qbwb (by omega),fun x hx=>by simp[qpg] at hx,fun _=>⟨qbmn,by
    rw[List.drop_length]
    unfold keys
    rw[if_pos qbmn,qbzz (by omega)];rfl,by rw[Nat.sub_self];rfl⟩⟩
   obtain ⟨b,t,ht,e⟩:=qbvq hX N n (by omega) (fun v0_0 v0_1 v0_2 v0_3 v0_4=>qhx (DD X N) n (qb1 (DD X N) n K0 K1 m) K0 K1 (qiq (DD X N) n (qb1 (DD X N) n K0 K1 m) K0 K1) v0_0 v0_1 v0_2 v0_3 v0_4) r (i:Int) (qlv r (i:Int)) (by omega) hsz (qby1 hr.ok h) n (qlv r (i:Int)).length true qpg (Nat.le_refl _) (by omega) hnew
   refine Eq.trans e ?_
   simp only[qhx,qbab]
   rw[qbn8 hX (by omega) t ht.small.2.1 (fun x hx=>by have:=ht.ksz x hx;omega),qf,qr (by omega)]
   dsimp only
   cases b
   ·rw[Bool.not_false,br_t];exact ih
   ·obtain ⟨_,g2,_⟩:=ht.good rfl
    rw[List.drop_zero] at g2
    rw[Bool.not_true,br_f,g2,List.length_map,bne_self_eq_false,br_f]
    simp only[qiq]
    have e2:=qbsj (X:=X) N n (fun v0_0 v0_1 v0_2=>qlu (DD X N) n (qb1 (DD X N) n K0 K1 m) K0 K1 v0_0 v0_1 v0_2) (fun v1_0 v1_1=>qhw (DD X N) n (qb1 (DD X N) n K0 K1 m) K0 K1 v1_0 v1_1) r (i:Int) (qlv r (i:Int)) (by omega) hsz n 0 (by omega)
    rw[show ((0:Nat):Int)=0 from rfl] at e2
    rw[e2]
    simp only[qhw]
    rw[qr (by omega)]
    exact ih
  ·rw[qp (by exact_mod_cast h)]
theorem qbbq (a:List Int):qw6 (DD qyh (W+18)) a=some ((true,()),()):=by
 have hC:=qbt9
 have hX:=hC.ok
 have hW:=qbt
 have hM:=qcn
 rw[q8t hX]
 simp only[qoz,qo4,qmc]
 rw[qbz0 hX (by omega),qf];dsimp only
 by_cases h:(a.length:Int)>1048576
 ·rw[decide_eq_true h,br_t]
 ·rw[decide_eq_false h,br_f]
  obtain ⟨r,row,hr,hl,e1⟩:=qbkw hX (n:=W+17) (by omega) a (by omega)
  rw[e1,qf];dsimp only
  have e2:=qbon hC qby0 (W+17) (W+17) (by omega) (by omega) (fun v0_0=>qhs (DD qyh (W+17)) (W+17) v0_0) (fun v1_0 v1_1=>qlt (DD qyh (W+17)) (W+17) v1_0 v1_1) r hr (W+17) 0 (Nat.zero_le _) (by have:=hr.sm.sch.ixs;omega)
  rw[show ((0:Nat):Int)=0 from rfl] at e2
  rw[e2]
  simp only[qhs]
  rw[qbfi hC (by omega) r hr.sm,qf,hr.ok]
end Go.G
namespace Go.Proofs.YtfafjngknkbngaaGreat
open Go.ChangeShapes Go.WideShapes Go.ChangeAt Go.RowKit Go.V Go.G
set_option maxRecDepth 100000
theorem fnWaysAreSkips_lifted (os:Os) (started:os.Started) (H:Type) (enc:TypeId×Value→H) :
  ReturnsInHanded {} Tryz.checked os 3 .any (Rows.fnWaysAreSkipsSpec.pre6 enc Tryz.prog Tryz.f3 Rows.fnWaysAreSkipsRow.domain false) (Rows.fnWaysAreSkipsSpec.post enc Tryz.prog Tryz.f3 false true false false):=
 qbtx (X:=qyh) (tb:=4) started Tryz.func3 (by kernel_rfl)
  (ChangeSpec.witness6 (enc:=enc) (C:=Tryz.checked) false ⟨#[],Tryz.f3.params.map fun t=>((Tryz.prog.info? t).bind (·.zero)).getD .nilIface,[]⟩ 8 (by kernel_rfl) (by kernel_rfl) (by kernel_rfl) (by kernel_rfl))
  ⟨rfl,rfl,trivial⟩ (by kernel_rfl) (by kernel_rfl) (by kernel_rfl) rfl
  (fun ds h=>by
   match ds,h with
   | [d0],_=>exact ⟨rfl,rfl,rfl⟩)
  (fun a wa=>⟨W+18,((true,()),()),qbbq a.1,fun h Pr Gs us k=>by
   obtain ⟨v,vs,rfl,⟨c,r,rfl⟩,e⟩:=k
   obtain rfl:vs=[]:=e
   simp only[Rep] at r
   subst r
   rfl⟩)
theorem fnWaysAreSkips_holds:Rows.FnWaysAreSkipsSaid:=
 OpenClaim.holds_of_wide 3 Tryz.f3 rfl rfl rfl rfl rfl rfl rfl ⟨rfl,rfl,rfl,rfl,rfl⟩ rfl rfl rfl rfl rfl (by kernel_rfl) Tryz.func3 (by kernel_rfl)
  (of_decide_eq_true (by kernel_rfl)) (by unfold Func.isWrapper;first | (rw[if_pos (by decide +kernel)];kernel_rfl) | (rw[if_neg (by decide +kernel)];exact ⟨rfl,rfl⟩))
  (fun os started H enc _=>fnWaysAreSkips_lifted os started H enc)
#print axioms fnWaysAreSkips_holds
end Go.Proofs.YtfafjngknkbngaaGreat

