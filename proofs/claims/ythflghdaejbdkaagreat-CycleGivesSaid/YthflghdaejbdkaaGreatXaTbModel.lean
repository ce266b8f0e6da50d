/- Lemmas of this claim. -/
import Derived.Test.YthflghdaejbdkaaGreatIterLay
import Derived.Test.YthflghdaejbdkaaGreatXaOFull
import Derived.Lib.SlKeysI
import Derived.Test.YthflghdaejbdkaaGreatXaOFam
import Derived.OwnWalk
import Derived.Test.YthflghdaejbdkaaGreatXaOModel
import Derived.Test.YthflghdaejbdkaaGreatXaInts
import Derived.Laws.StructEq
import Derived.Test.YthflghdaejbdkaaGreatXaRBlockE
namespace Go.Proofs.YthflghdaejbdkaaGreat
open Go.RowKit Go.Maps Go.Sort Go.Shelf
set_option maxHeartbeats 3200000
set_option maxRecDepth 100000
set_option linter.unusedVariables false
theorem aPb (m:Nat):AnyZI.SortsIn Tryz.prog Tryz.sortedA_ren Fence.wide m:=
 ⟨fun z e cap ss W hH y d=>callsIn_wide.2 (AnyM.slices_Sort_int Tryz.sortA z e cap ss W hH y d),
  fun p cap W=>callsIn_wide.2 (AnyM.slices_Sort_int_none Tryz.sortA p cap W)⟩
theorem aIq {P:Program} {k:TypeId} {R:Value->Option (DataW Unit×List MemPlace)} {w:World} {b n:Nat} {D:DataW Unit} (d:w.ownsMap P k R b n D) (K:Keyed P k) (hk:P.underlying k=some (.int .i64)) {l ss:List Int} (hl:l.Pairwise (·<·)) (hm:∀ x,x∈l->wfI x) (hh:∀ x,wfI x->(Maps.has D (.int .i64 x)=true↔x∈l)) (hp:ss.Perm (intKeys D)) :
  ss.mergeSort (fun x y=>decide (x<=y))=l:=by
 obtain ⟨es,hD,h6,_⟩:=d.entries K;obtain ⟨h3,h0,h4⟩:=d.keysOf;obtain rfl:es=h3:=by rw [hD] at h0;simpa using h0
 subst hD;have h5:l.Nodup:=hl.imp (fun h e=>by omega);have z:∀ p∈es,∃ x,p.1=.int .i64 x/\wfI x:=fun p hp=>by
  obtain ⟨v,hv⟩:=h4 p hp;obtain ⟨x,_,hx,hw⟩:=Maps.keyOf_i64 hk hv;exact ⟨x,hx,hw⟩
 have h1:l.Perm (intKeys (.map es)):=perm_intKeys h6 (fun p hp=>by obtain ⟨x,hx,_⟩:=z p hp;exact ⟨x,hx⟩) h5 (fun x=>by
  constructor
  ·intro hx;exact (hh x (hm x hx)).2 hx
  intro hx;refine (hh x ?_).1 hx;simp only [Maps.has,List.any_eq_true] at hx;obtain ⟨p,hp,hs⟩:=hx;obtain ⟨y,hy,hw⟩:=z p hp;rw [hy] at hs;have e:y=x:=by simpa [Lit.sameKey] using hs
  rw [<-e];exact hw)
 have h2:=mergeSort_of_perm_i (hp.trans h1.symm);show ss.mergeSort leI=l;rw [h2];exact List.mergeSort_of_pairwise (hl.imp (fun h=>by simp only [leI,decide_eq_true_eq];omega))
theorem aHH {w w':World} {B:Nat} (h:Below B w w') (y:B=w.heap.size):Only [] w w':=by
 subst y;exact ⟨h.os,h.tape,h.output,h.size,fun k z _=>h.block k z⟩
theorem aAd (w:World) (y:Option Nat):Calls Tryz.prog 135 #[.map y] w fun e w'=>e=.returned (.func (.func 204) #[] #[.pointer (some ⟨w.heap.size,0,none⟩)])/\w'=w.alloc (.cells #[.map y] 173):=
 callsIn_wide.1 (AnyZI.keys_in Tryz.keysA Fence.wide 5 trivial rfl y w)
theorem vN {w:World} {z n:Nat} {f:Int->Option Nat} (h:dL w z n f) (hn:n<=1000000) {l:List Int} (hl:l.Pairwise (·<·)) (hm:∀ x,x∈l->wfI x) (hf:∀ x,wfI x->((f x).isSome=true↔x∈l)) :
  Calls Tryz.prog 133 #[.func (.func 204) #[] #[.pointer (some ⟨w.heap.size,0,none⟩)]] (w.alloc (.cells #[.map (some z)] 173)) fun e w'=>
   ∃ v,e=.returned v/\aN w' w.heap.size v l/\Only [] w w':=by
 obtain ⟨D,hD,h2⟩:=h;have h3:=hD.lt;have h4:=hD.size_le;have h1:SeqGives Fence.wide 2 Tryz.prog 204 #[.pointer (some ⟨w.heap.size,0,none⟩)] encZ (fun ss=>ss.Perm (intKeys D)) (Maps.size D) (w.alloc (.cells #[.map (some z)] 173)):=
  AnyZI.keys_gives (ρ:=Tryz.keysA_ren) { Tryz.keysA with } Fence.wide _ trivial rfl (by omega) w.heap.size z n D _ (by simp) (by simp) (hD.alloc _)
 have cS:=AnyZI.sorted_in Tryz.sortedA Fence.wide 5 trivial trivial trivial trivial rfl (by omega) (aPb _) (enters_of Tryz.func202 (by kernel_rfl) rfl) 204 #[.pointer (some ⟨w.heap.size,0,none⟩)] trivial (enters_of Tryz.func204 (by kernel_rfl) rfl) _ _ (by simp only [maxLen];omega) (by omega) _ h1;change CallsIn _ _ Tryz.prog 133 _ _ _ at cS;refine (callsIn_wide.1 cS).mono ?_;rintro e w' ⟨v,ss,rfl,hS,y,_,hb⟩;have d:=aIq hD dZ Tryz.underlying3 hl hm (fun x hx=>by rw [(h2 x hx).1];exact hf x hx) hS;have h0:ss.length=l.length:=by rw [<-d,List.length_mergeSort]
 rw [d,h0] at y;have ho:=aHH hb rfl;refine ⟨v,rfl,?_,((Only.refl [] w).alloc _).trans ho (by simp)⟩;have hI:aN w' (w.alloc (.cells #[.map (some z)] 173)).heap.size v l:=y;exact hI.base (by simp)
theorem Hp.yQ (M:Hp) (k:Nat):(M.aX k).Pairwise (·<·):=by
 induction k with
 | zero=>exact List.Pairwise.nil
 | succ k d=>
  unfold Hp.aX;refine List.pairwise_append.2 ⟨d,by split<;>simp,fun a y b hb=>?_⟩
  have e:b=(k:Int)+1:=by
   split at hb
   ·simpa using hb
   simp at hb
  have:∀ j,∀ a,a∈M.aX j->a<(j:Int)+1:=by
   intro j
   induction j with
   | zero=>intro a y;simp [Hp.aX] at y
   | succ j z=>
    intro a y;unfold Hp.aX at y;rw [List.mem_append] at y;rcases y with y|y
    ·have:=z a y;omega
    split at y
    ·simp at y;omega
    simp at y
  have:=this k a y;omega
theorem Hp.aCI {M:Hp} {k:Nat} {x:Int}:x∈M.aX k↔∃ j:Nat,j<k/\x=(j:Int)+1/\(M.ob x).isSome=true:=by
 induction k with
 | zero=>simp [Hp.aX]
 | succ k ih=>
  unfold Hp.aX;rw [List.mem_append,ih];constructor
  ·rintro (⟨j,d,y,z⟩|h)
   ·exact ⟨j,by omega,y,z⟩
   split at h
   ·rename_i hs;simp at h;subst h;exact ⟨k,by omega,rfl,hs⟩
   simp at h
  rintro ⟨j,d,y,z⟩
  by_cases e:j=k
  ·right;subst e;subst y;rw [if_pos z];simp
  exact .inl ⟨j,by omega,y,z⟩
theorem Hp.Ok.yG {M:Hp} (y:M.Ok) {x:Int}:x∈M.handles↔(M.ob x).isSome=true:=by
 unfold Hp.handles;rw [Hp.aCI];constructor
 ·rintro ⟨_,_,_,h⟩;exact h
 intro h;obtain ⟨o,z⟩:=Option.isSome_iff_exists.1 h;have:=y.hr x o z;exact ⟨x.toNat - 1,by omega,by omega,h⟩
theorem yP {L:Nat->Option Lb} {hb:Nat} {M:Hp} {X:HX} (w:World) (h:dJ w L hb M X) (d:M.Ok):Calls Tryz.prog 62 #[.pointer (some ⟨hb,0,none⟩)] w (aKF w M.handles):=by
 refine aF fun R hR=>?_;have h1:=gG w h;have c1:=h.cells.2.1;have y:=aAd w (some X.mb);have z:=vN h.mp (by omega) (l:=M.handles) (Hp.yQ M 192) (fun x hx=>by
  obtain ⟨o,ho⟩:=Option.isSome_iff_exists.1 (d.yG.1 hx);have:=d.hr x o ho;exact dN (by omega)) (fun x _=>by
  rw [d.yG]
  cases M.ob x<;>simp)
 clear h d;go_in;go_wp2_with fail;refine h1.mono ?_;rintro e _ ⟨rfl,rfl⟩;go_wp2_with fail;refine y.mono ?_;rintro e _ ⟨rfl,rfl⟩;go_wp2_with fail;refine z.mono ?_;rintro e w5 ⟨v,rfl,hi,ho⟩;have HI:=aA hi;have HO:=aA ho;clear h1 y z hi ho;go_wp2;exact hR.out _ _ ⟨v,rfl,HI.out,HO.out⟩
end Go.Proofs.YthflghdaejbdkaaGreat
namespace Go.Proofs.YthflghdaejbdkaaGreat
open Go.RowKit Go.Maps
set_option maxHeartbeats 12800000
set_option maxRecDepth 100000
set_option linter.unusedVariables false
theorem Hp.Ok.wfH {M:Hp} (y:M.Ok) {k:Int} (h:(M.ob k).isSome=true):wfI k:=by
 obtain ⟨o,z⟩:=Option.isSome_iff_exists.1 h;have:=y.hr k o z;exact dN (by omega)
theorem aFA {l:List Int} {i:Nat} (h:i<l.length):gI l i=l[i]:=by unfold gI;rw [List.getElem?_eq_getElem h];rfl
theorem aPU {l:List Bool} {i j:Nat} {v:Bool} (y:i<l.length):gB (l.set i v) j=if j=i then v else gB l j:=by
 unfold gB;rw [List.getElem?_set]
 by_cases e:i=j
 ·subst e;rw [if_pos rfl,if_pos y,if_pos rfl];rfl
 rw [if_neg e,if_neg (Ne.symm e)]
section
variable {M:Hp} {i k:Nat} {o o2:Th} {bits:List Bool}
end
theorem aLH (n:Nat) (hn:n<=1000):∃ C:Array Value,C.toList=(List.replicate n false).map Value.bool/\∀ y:World,(Instr.makeSlice 50 (.int .i64 (n:Int)) (.int .i64 (n:Int))).run Tryz.prog y=.ok (.slice (some ⟨y.heap.size,0,none⟩) n n) (y.alloc (.cells C 4)):=by
 obtain ⟨i0,d,e,z,h0⟩:=info_parts wJ;refine ⟨madeCells (Value.bool false).cells (n*1),by rw [aLJ,List.map_replicate],fun y=>?_⟩;rw [run_makeSlice (P:=Tryz.prog) (w:=y) 50 4 i0 _ Tryz.underlying50 d e .i64 .i64 _ _ (by omega) (by omega) (by rw [z];omega) (by rw [h0];omega) (by omega),z];rfl
end Go.Proofs.YthflghdaejbdkaaGreat
namespace Go.Proofs.YthflghdaejbdkaaGreat
set_option linter.unusedVariables false
set_option maxRecDepth 100000
def Hp.fM (M:Hp) (y:List Int):Prop:=∃ x,x∈y/\x≠0/\M.ob x=none
section
variable {M:Hp} {roots:List Int}
theorem Hp.Ok.aRa (hk:M.Ok) {x y:Int} {o:Th} (ho:M.ob x=some o) (hy:y∈o.vO):(M.ob y).isSome=true/\1<=y/\y<=192:=by
 obtain ⟨s,hs,h1,h2,h3⟩:=Th.aCt hy;have z:=hk.sl x o ho s hs;rw [h1,h2] at z;have e:(M.ob y).isSome=true:=by
  unfold Hp.fits at z;simp only [if_true,Bool.or_eq_true,decide_eq_true_eq] at z;rcases z with z|z
  ·exact absurd z h3
  exact z
 obtain ⟨o',d⟩:=Option.isSome_iff_exists.1 e;exact ⟨e,hk.hr y o' d⟩
end
def jS (f:Int->Int) (k v:Int):Int->Int:=fun j=>if j=k then v else f j
theorem cO (f:Int->Int) (k v:Int):jS f k v k=v:=if_pos rfl
theorem bI (f:Int->Int) {k j:Int} (v:Int) (h:j≠k):jS f k v j=f j:=if_neg h
structure Mk where
 M:Hp
 col:Int->Int
 list:List Int
def Mk.wh (m:Mk) (x:Int):Bool:=decide (x≠0) && (m.M.ob x).isSome && decide (m.col x=0)
def Mk.bH (m:Mk) (x:Int):Mk:=if m.wh x then ⟨m.M,jS m.col x 1,m.list ++ [x]⟩ else m
def Mk.bC (m:Mk) (l:List Int):Mk:=l.foldl Mk.bH m
def Mk.put (m:Mk) (M:Hp):Mk:=⟨M,m.col,m.list⟩
def bQ (l:List Int) (x:Int):List Int:=l.filter (fun y=>decide (y≠x))
def Mk.black (m:Mk) (x:Int):Mk:=⟨m.M,jS m.col x 2,bQ m.list x⟩
def Mk.forget (m:Mk) (x:Int):Mk:=⟨m.M,jS m.col x 0,bQ m.list x⟩
def Mk.start (M:Hp):Mk:=⟨M,fun _=>0,[]⟩
def Mk.next (m:Mk):Int×Int:=match m.list with|[]=>(0,3)|h :: _=>(h,0)
def Mk.eH (m:Mk) (h:Int):Mk:=(⟨m.M,jS m.col h 2,m.list.drop 1⟩:Mk).bC (m.M.refs h).1
def Mk.step (m:Mk):Int×Int×Mk:=match m.list with|[]=>(0,3,m)|h :: _=>(h,0,m.eH h)
def Mk.store (m:Mk) (h s v:Int):Int×Mk:=
 let r:=m.M.set h s v
 (r.1,if r.1=0/\(m.M.isRef h s).1=true then ((m.put r.2).bH (m.M.get h s).1).bH v else m.put r.2)
def Mk.made (m:Mk) (r:Int×Int×Hp):Int×Int×Mk:=(r.1,r.2.1,if r.2.1=0 then (m.put r.2.2).black r.1 else m.put r.2.2)
def Mk.aH (m:Mk) (c:Int) (l:List Bool):Int×Int×Mk:=m.made (m.M.aH c l)
def Mk.aG (m:Mk) (k c n:Int):Int×Int×Mk:=m.made (m.M.aG k c n)
def Mk.jR (m:Mk) (x:Int):Int:=if x≠0/\(m.M.ob x).isSome=false then 3 else 0
def Mk.color (m:Mk) (x:Int):Int×Int:=if (m.M.ob x).isSome then (m.col x,0) else (0,3)
def Mk.white (m:Mk):List Int:=m.M.handles.filter (fun x=>decide (m.col x=0))
structure Mk.Ok (m:Mk):Prop where
 hf:m.M.OkF
 rg:∀ k,m.col k=0\/m.col k=1\/m.col k=2
 us:∀ k,m.col k≠0->(m.M.ob k).isSome=true
 nd:m.list.Nodup
 gr:∀ k,k∈m.list↔m.col k=1
section
variable {m:Mk} {x:Int}
theorem Hp.Ok.inR {M:Hp} (y:M.Ok) (h:(M.ob x).isSome=true):1<=x/\x<=192:=by
 obtain ⟨o,z⟩:=Option.isSome_iff_exists.1 h;exact y.hr x o z
theorem Mk.kJ:m.wh x=true↔x≠0/\(m.M.ob x).isSome=true/\m.col x=0:=by
 unfold Mk.wh;simp [and_assoc]
theorem Mk.Ok.aER (h:m.Ok) (hx:x∈m.list):(m.M.ob x).isSome=true:=h.us x (by rw [(h.gr x).1 hx];decide)
theorem Mk.Ok.inR (h:m.Ok) (hx:x∈m.list):1<=x/\x<=192:=h.hf.ok.inR (h.aER hx)
theorem aFj {l:List Int} (hn:l.Nodup) (d:∀ x∈l,1<=x/\x<=192):l.length<=192:=by
 have h:(l.map Int.toNat).Nodup:=by
  rw [List.nodup_iff_pairwise_ne,List.pairwise_map];rw [List.nodup_iff_pairwise_ne] at hn;refine hn.imp_of_mem ?_;intro a b z hb h0 e;have:=d a z;have:=d b hb;exact h0 (by omega)
 have h2:(l.map Int.toNat) ⊆ List.range 193:=by
  intro y hy;obtain ⟨a,z,rfl⟩:=List.mem_map.1 hy;have:=d a z;rw [List.mem_range];omega
 have h3:0∉l.map Int.toNat:=by
  intro hy;obtain ⟨a,z,e⟩:=List.mem_map.1 hy;have:=d a z;omega
 have h4:(0 :: l.map Int.toNat).Nodup:=List.nodup_cons.2 ⟨h3,h⟩;have h5:(0 :: l.map Int.toNat) ⊆ List.range 193:=List.cons_subset.2 ⟨by simp,h2⟩;have h6:=(kV h4 (l2:=List.range 193) (fun x hx=>h5 hx)).1;simp at h6;omega
theorem Mk.Ok.len (h:m.Ok):m.list.length<=192:=aFj h.nd (fun x hx=>h.inR hx)
theorem Mk.Ok.bH (h:m.Ok) (x:Int):(m.bH x).Ok:=by
 unfold Mk.bH;split
 ·rename_i hw;obtain ⟨h1,d,h3⟩:=Mk.kJ.1 hw;refine ⟨h.hf,fun k=>?_,fun k hk=>?_,?_,fun k=>?_⟩
  ·show jS m.col x 1 k=0\/jS m.col x 1 k=1\/jS m.col x 1 k=2
   by_cases e:k=x
   ·rw [e,cO];exact .inr (.inl rfl)
   rw [bI _ _ e];exact h.rg k
  ·have y:jS m.col x 1 k≠0:=hk
   by_cases e:k=x
   ·rw [e];exact d
   rw [bI _ _ e] at y;exact h.us k y
  ·show (m.list ++ [x]).Nodup;rw [List.nodup_append];refine ⟨h.nd,by simp,fun a z b hb e=>?_⟩;simp at hb;rw [e,hb] at z;have:=(h.gr x).1 z;omega
  show k∈m.list ++ [x]↔jS m.col x 1 k=1;rw [List.mem_append]
  by_cases e:k=x
  ·rw [e,cO];simp
  rw [bI _ _ e,h.gr k];simp [e]
 exact h
theorem Mk.mG:(m.bH x).M=m.M:=by unfold Mk.bH;split<;>rfl
theorem Mk.nT (l:List Int):∀ m:Mk,(m.bC l).M=m.M:=by
 induction l with
 | nil=>intro m;rfl
 | cons a l y=>intro m;exact (y (m.bH a)).trans Mk.mG
theorem Mk.Ok.bC (l:List Int):∀ m:Mk,m.Ok->(m.bC l).Ok:=by
 induction l with
 | nil=>intro m h;exact h
 | cons a l y=>intro m h;exact y _ (h.bH a)
theorem Mk.wZ (k:Int):(m.bH x).col k=m.col k\/(k=x/\m.wh x=true/\m.col k=0/\(m.bH x).col k=1):=by
 unfold Mk.bH;split
 ·rename_i hw;show jS m.col x 1 k=m.col k\/_
  by_cases e:k=x
  ·exact .inr ⟨e,hw,by rw [e];exact (Mk.kJ.1 hw).2.2,by rw [e];exact cO _ _ _⟩
  exact .inl (bI _ _ e)
 exact .inl rfl
theorem Mk.nS (l:List Int) (k:Int):∀ m:Mk,(m.bC l).col k=m.col k\/(k∈l/\k≠0/\(m.M.ob k).isSome=true/\m.col k=0/\(m.bC l).col k=1):=by
 induction l with
 | nil=>intro m;exact .inl rfl
 | cons a l ih=>
  intro m;have y:=ih (m.bH a);show ((m.bH a).bC l).col k=_\/(_/\_/\_/\_/\((m.bH a).bC l).col k=1);rcases Mk.wZ (m:=m) (x:=a) k with z|⟨z,e,h4,h5⟩
  ·rw [z] at y;rw [Mk.mG] at y;rcases y with y|⟨y,h6,h7,d,h9⟩
   ·exact .inl y
   exact .inr ⟨List.mem_cons_of_mem _ y,h6,h7,d,h9⟩
  rcases y with y|⟨_,_,_,d,_⟩
  ·obtain ⟨w1,w2,w3⟩:=Mk.kJ.1 e;exact .inr ⟨by rw [z];exact List.mem_cons_self,by rw [z];exact w1,by rw [z];exact w2,h4,by rw [y,h5]⟩
  omega
theorem aEn {l:List Int} {k:Int}:k∈bQ l x↔k∈l/\k≠x:=by unfold bQ;simp
theorem aBU {l:List Int} (h:x∉l):bQ l x=l:=by
 unfold bQ;rw [List.filter_eq_self];intro a y;simp;intro e;exact h (by rw [<-e];exact y)
theorem aAS {l:List Int} (h:l.Nodup):(bQ l x).Nodup:=h.filter _
theorem Mk.Ok.black (h:m.Ok) (hx:(m.M.ob x).isSome=true):(m.black x).Ok:=by
 refine ⟨h.hf,fun k=>?_,fun k hk=>?_,aAS h.nd,fun k=>?_⟩
 ·show jS m.col x 2 k=0\/jS m.col x 2 k=1\/jS m.col x 2 k=2
  by_cases e:k=x
  ·rw [e,cO];exact .inr (.inr rfl)
  rw [bI _ _ e];exact h.rg k
 ·have y:jS m.col x 2 k≠0:=hk
  by_cases e:k=x
  ·rw [e];exact hx
  rw [bI _ _ e] at y;exact h.us k y
 show k∈bQ m.list x↔jS m.col x 2 k=1;rw [aEn]
 by_cases e:k=x
 ·rw [e,cO];simp
 rw [bI _ _ e,h.gr k];simp [e]
theorem Mk.Ok.start {M:Hp} (h:M.OkF):(Mk.start M).Ok:=⟨h,fun _=>.inl rfl,fun k hk=>absurd rfl hk,by simp [Mk.start],fun k=>by simp [Mk.start]⟩
theorem Mk.Ok.put (h:m.Ok) {M:Hp} (y:M.OkF) (d:∀ k,(m.M.ob k).isSome=true->(M.ob k).isSome=true):(m.put M).Ok:=
 ⟨y,h.rg,fun k z=>d k (h.us k z),h.nd,h.gr⟩
theorem vG {h:Int} {t:List Int} (e:m.list=h :: t) (y:m.list.Nodup):(⟨m.M,jS m.col h 2,m.list.drop 1⟩:Mk)=m.black h:=by
 unfold Mk.black;rw [e] at y ⊢;have:bQ (h :: t) h=t:=by
  have z:=(List.nodup_cons.1 y).1;show List.filter _ (h :: t)=t;rw [List.filter_cons_of_neg (by simp)];exact aBU z
 rw [this];rfl
theorem Mk.Ok.eH (h:m.Ok) {x:Int} {t:List Int} (e:m.list=x :: t):(m.eH x).Ok:=by
 unfold Mk.eH;rw [vG e h.nd];exact Mk.Ok.bC _ _ (h.black (h.aER (by rw [e];simp)))
theorem Mk.Ok.step (h:m.Ok):m.step.2.2.Ok:=by
 unfold Mk.step
 cases e:m.list with
 | nil=>exact h
 | cons x t=>exact h.eH e
theorem Mk.oP:m.step.2.2.M=m.M:=by
 unfold Mk.step
 cases e:m.list with
 | nil=>rfl
 | cons x t=>exact Mk.nT _ _
def Mk.left (m:Mk):Nat:=cnt (fun k=>(m.M.ob ((k:Int)+1)).isSome && decide (m.col ((k:Int)+1)≠2)) 192
theorem Mk.left_le:m.left<=192:=uY _ _
theorem Mk.left_step (h:m.Ok) (e:m.list≠[]):m.step.2.2.left+1=m.left:=by
 unfold Mk.step
 cases z:m.list with
 | nil=>exact absurd z e
 | cons x t=>
  obtain ⟨h1,h2⟩:=h.inR (x:=x) (by rw [z];simp);have hc:m.col x=1:=(h.gr x).1 (by rw [z];simp);have hu:=h.aER (x:=x) (by rw [z];simp);obtain ⟨k0,h0,hx⟩:∃ k:Nat,k<192/\x=(k:Int)+1:=⟨(x - 1).toNat,by omega,by omega⟩;show (m.eH x).left+1=m.left;have hl:(m.eH x).left=cnt (up (fun k=>(m.M.ob ((k:Int)+1)).isSome && decide (m.col ((k:Int)+1)≠2)) k0 false) 192:=jI fun j hj=>by
   have hM:(m.eH x).M=m.M:=Mk.nT _ _;rw [hM]
   by_cases ej:j=k0
   ·rw [ej,bM,<-hx];have y:(m.eH x).col x=2:=by
     rcases Mk.nS (m.M.refs x).1 x ⟨m.M,jS m.col x 2,m.list.drop 1⟩ with h3|⟨_,_,_,d,_⟩
     ·exact h3.trans (cO _ _ _)
     rw [show (⟨m.M,jS m.col x 2,m.list.drop 1⟩:Mk).col x=2 from cO _ _ _] at d;omega
    rw [y];simp
   rw [aW _ _ ej];have h6:(j:Int)+1≠x:=by omega
   have y:(m.eH x).col ((j:Int)+1)=2↔m.col ((j:Int)+1)=2:=by
    have e0:(⟨m.M,jS m.col x 2,m.list.drop 1⟩:Mk).col ((j:Int)+1)=m.col ((j:Int)+1):=bI _ _ h6;rcases Mk.nS (m.M.refs x).1 ((j:Int)+1) ⟨m.M,jS m.col x 2,m.list.drop 1⟩ with h3|⟨_,_,_,d,h5⟩
    ·rw [show (m.eH x).col ((j:Int)+1)=_ from h3,e0]
    rw [e0] at d;rw [show (m.eH x).col ((j:Int)+1)=1 from h5,d];omega
   congr 1;rw [decide_eq_decide];exact not_congr y
  rw [hl];exact zL h0 (by rw [<-hx,hu,hc];rfl)
theorem Hp.nU (M:Hp) (h s v k:Int):((M.set h s v).2.ob k).isSome=(M.ob k).isSome:=by
 unfold Hp.set
 cases e:M.ob h with
 | none=>rfl
 | some o=>
  simp only;split
  ·rfl
  split
  ·show (eU M.ob h _ k).isSome=_
   by_cases y:k=h
   ·rw [y,aY,e];rfl
   rw [bF _ _ y]
  rfl
theorem Hp.add_facts (M:Hp) (o:Th):(∀ k,(M.ob k).isSome=true->(M.add o).2.2.ob k=M.ob k)/\((M.add o).2.1=0->M.ob (M.add o).1=none/\∃ bs,(M.add o).2.2.ob (M.add o).1=some { o with blocks:=bs }/\∀ k,k≠(M.add o).1->(M.add o).2.2.ob k=M.ob k)/\((M.add o).2.1≠0->(M.add o).2.2=M/\(M.add o).1=0):=by
 unfold Hp.add;split
 ·rename_i hl;have z:=M.oC hl
  cases e:dD M.P (aS o.slots.length) (aS o.slots.length).length with
  | none=>exact ⟨fun _ _=>rfl,fun h=>absurd (show (14:Int)=0 from h) (by decide),fun _=>⟨rfl,rfl⟩⟩
  | some r=>
   obtain ⟨bs,Q⟩:=r;simp only;refine ⟨fun k y=>?_,fun _=>⟨z,bs,aY _ _ _,fun k y=>bF _ _ y⟩,fun h=>absurd rfl h⟩;exact bF _ _ (fun d=>by rw [d,z] at y;cases y)
 exact ⟨fun _ _=>rfl,fun h=>absurd (show (14:Int)=0 from h) (by decide),fun _=>⟨rfl,rfl⟩⟩
structure vT (M:Hp) (r:Int×Int×Hp):Prop where
 ok:M.OkF->r.2.2.OkF
 old:∀ k,(M.ob k).isSome=true->r.2.2.ob k=M.ob k
 no:r.2.1≠0->r.2.2=M/\r.1=0
 yes:r.2.1=0->M.ob r.1=none/\(∀ k,k≠r.1->r.2.2.ob k=M.ob k)/\∃ o,r.2.2.ob r.1=some o/\∀ s,gI o.slots s=0
theorem vT.add (M:Hp) {o:Th} (ho:o.ok1) (y:∀ s,gI o.slots s=0):vT M (M.add o):=by
 obtain ⟨z,d,h3⟩:=M.add_facts o;exact ⟨fun h=>h.add ho y,z,h3,fun e=>by
  obtain ⟨a,bs,b,c⟩:=d e;exact ⟨a,c,_,b,y⟩⟩
theorem vT.none (M:Hp) {e:Int} (y:e≠0):vT M (0,e,M):=⟨id,fun _ _=>rfl,fun _=>⟨rfl,rfl⟩,fun h=>absurd h y⟩
theorem Hp.iG (M:Hp) (c:Int) (l:List Bool):vT M (M.aH c l):=by
 unfold Hp.aH;split
 ·exact vT.none M (by decide)
 rename_i y;exact vT.add M (pJ y).1 (pJ y).2
theorem Hp.jF (M:Hp) (k c n:Int):vT M (M.aG k c n):=by
 unfold Hp.aG;split
 ·exact vT.none M (by decide)
 rename_i y;split
 ·rename_i hd;exact vT.add M (pX y hd).1 (pX y hd).2
 exact vT.none M (by decide)
theorem Mk.Ok.made (h:m.Ok) {r:Int×Int×Hp} (y:vT m.M r):(m.made r).2.2.Ok:=by
 have z:(m.put r.2.2).Ok:=h.put (y.ok h.hf) (fun k d=>by rw [y.old k d];exact d);unfold Mk.made;split
 ·rename_i e;obtain ⟨_,_,o,ho,_⟩:=y.yes e;exact z.black (by show (r.2.2.ob r.1).isSome=true;rw [ho];rfl)
 exact z
theorem Mk.Ok.aH (h:m.Ok) (c:Int) (l:List Bool):(m.aH c l).2.2.Ok:=h.made (m.M.iG c l)
theorem Mk.Ok.aG (h:m.Ok) (k c n:Int):(m.aG k c n).2.2.Ok:=h.made (m.M.jF k c n)
theorem Mk.Ok.store (h:m.Ok) (a s v:Int):(m.store a s v).2.Ok:=by
 have y:(m.put (m.M.set a s v).2).Ok:=h.put (h.hf.set a s v) (fun k z=>by rw [Hp.nU];exact z);unfold Mk.store;simp only;split
 ·exact (y.bH _).bH _
 exact y
theorem aLu {M:Hp} (d:M.Ok) {y:Int} (z:y∈(M.refs x).1):y≠0/\(M.ob y).isSome=true:=by
 unfold Hp.refs at z
 cases e:M.ob x with
 | none=>rw [e] at z;cases z
 | some o=>
  rw [e] at z;have:=d.aRa e z;exact ⟨by omega,this.1⟩
end
set_option maxHeartbeats 1600000
section
variable {m:Mk} {roots:List Int} {x k:Int}
theorem Mk.aLh (h:m.Ok) {x:Int} {t:List Int} (e:m.list=x :: t) (k:Int):(m.eH x).col k=2/\k=x\/k≠x/\(m.eH x).col k=m.col k\/k≠x/\m.col k=0/\(m.eH x).col k=1/\k∈(m.M.refs x).1:=by
 by_cases y:k=x
 ·left;rw [y];refine ⟨?_,rfl⟩;rcases Mk.nS (m.M.refs x).1 x ⟨m.M,jS m.col x 2,m.list.drop 1⟩ with d|⟨_,_,_,z,_⟩
  ·exact d.trans (cO _ _ _)
  rw [show (⟨m.M,jS m.col x 2,m.list.drop 1⟩:Mk).col x=2 from cO _ _ _] at z;omega
 have e0:(⟨m.M,jS m.col x 2,m.list.drop 1⟩:Mk).col k=m.col k:=bI _ _ y;rcases Mk.nS (m.M.refs x).1 k ⟨m.M,jS m.col x 2,m.list.drop 1⟩ with d|⟨h1,_,_,z,h5⟩
 ·exact .inr (.inl ⟨y,d.trans e0⟩)
 rw [e0] at z;exact .inr (.inr ⟨y,z,h5,h1⟩)
def Mk.used (m:Mk):Nat:=cnt (fun k=>(m.M.ob ((k:Int)+1)).isSome) 192
theorem aCU (M:Hp) (k:Nat):(M.aX k).length=cnt (fun j=>(M.ob ((j:Int)+1)).isSome) k:=by
 induction k with
 | zero=>rfl
 | succ k y=>
  unfold Hp.aX cnt;rw [List.length_append,y];split<;>rfl
theorem Mk.aKT (m:Mk):m.used=m.M.handles.length:=(aCU m.M 192).symm
end
section
variable {m:Mk} {K:List Int} {x k:Int}
theorem aIu (M:Hp) (a s v:Int):((M.set a s v).1≠0/\(M.set a s v).2=M)\/∃ o,∃ j:Nat,s=(j:Int)/\M.ob a=some o/\j<o.slots.length/\M.fits (gB o.refs j) v=true/\(M.set a s v).1=0/\(M.set a s v).2.ob=eU M.ob a (some (o.put j v))/\(M.isRef a s).1=gB o.refs j/\(M.get a s).1=gI o.slots j:=by
 unfold Hp.set Hp.isRef Hp.get
 cases e:M.ob a with
 | none=>exact .inl ⟨show (3:Int)≠0 by decide,rfl⟩
 | some o=>
  simp only
  by_cases h:s<0\/(o.slots.length:Int)<=s
  ·rw [if_pos h];exact .inl ⟨show (1:Int)≠0 by decide,rfl⟩
  rw [if_neg h,if_neg h,if_neg h]
  by_cases y:M.fits (gB o.refs s.toNat) v=true
  ·rw [if_pos y];exact .inr ⟨o,s.toNat,by omega,rfl,by omega,y,rfl,rfl,rfl,rfl⟩
  rw [if_neg y];exact .inl ⟨show (1:Int)≠0 by decide,rfl⟩
end
end Go.Proofs.YthflghdaejbdkaaGreat
namespace Go.Proofs.YthflghdaejbdkaaGreat
set_option linter.unusedVariables false
set_option maxRecDepth 100000
structure En where
 kind:Int
 tgt:Int
 tag:Int
structure Tb where
 ents:List En
 q:List Int
 ph:Nat
 nx:Nat
 fd:Nat->Bool
def eAt (l:List En) (i:Nat):En:=l[i]?.getD ⟨0,0,0⟩
def Tb.new:Tb:=⟨[],[],0,0,fun _=>false⟩
def Mk.isW (m:Mk) (x:Int):Bool:=(m.M.ob x).isSome && decide (m.col x=0)
def nxt (l:List En) (k:Int) (n:Nat):Nat:=fst (fun i=>decide (n<=i) && decide ((eAt l i).kind=k)) l.length
def Tb.at (t:Tb) (y nx:Nat):Tb:=⟨t.ents,t.q,y,nx,t.fd⟩
def Tb.zY (t:Tb) (n:Nat):Tb:=t.at 4 (nxt t.ents 3 n)
def Tb.sF (t:Tb) (m:Mk):Tb:=if m.list=[] then t.zY 0 else t.at 3 0
def Tb.set2 (t:Tb) (m:Mk) (n:Nat):Tb:=if nxt t.ents 2 n<t.ents.length then t.at 2 (nxt t.ents 2 n) else t.sF m
def Tb.find (t:Tb) (m:Mk):Tb:=⟨t.ents,t.q,t.ph,t.nx,fun i=>decide ((eAt t.ents i).kind=2) && m.isW (eAt t.ents i).tgt⟩
def Tb.set1 (t:Tb) (m:Mk) (n:Nat):Tb:=if nxt t.ents 1 n<t.ents.length then t.at 1 (nxt t.ents 1 n) else (t.find m).set2 m 0
def Tb.settle (t:Tb) (m:Mk):Tb:=if t.ph=1 then t.set1 m t.nx else if t.ph=2 then t.set2 m t.nx else if t.ph=3 then t.sF m else if t.ph=4 then t.zY t.nx else t
def Tb.add (t:Tb) (m:Mk) (k x g:Int):Int×Int×Tb:=
 if k<1\/3<k then (0,1,t) else if t.ph≠0 then (0,13,t) else if (m.M.ob x).isSome=false then (0,3,t) else if 20<=t.ents.length then (0,2,t)
 else (t.ents.length,0,⟨t.ents ++ [⟨k,x,g⟩],t.q,t.ph,t.nx,t.fd⟩)
def Tb.target (t:Tb) (i:Int):Int×Int:=if i<0\/(t.ents.length:Int)<=i then (0,1) else ((eAt t.ents i.toNat).tgt,0)
def Tb.take (t:Tb):Int×Int×Tb:=match t.q with|[]=>(0,3,t)|x :: r=>(x,0,⟨t.ents,r,t.ph,t.nx,t.fd⟩)
def Tb.begin (t:Tb) (m:Mk):Int×Tb:=if t.ph≠0\/m.list≠[] then (13,t) else (0,(t.at 1 0).settle m)
def En.off (e:En):En:=⟨e.kind,0,e.tag⟩
def Tb.clear (t:Tb) (m:Mk) (i:Nat):Tb×Mk:=
 let e:=eAt t.ents i
 if t.ph=2 then (if t.fd i then (⟨t.ents.set i e.off,t.q ++ [e.tag],t.ph,t.nx,t.fd⟩,m.bH e.tgt) else (t,m))
 else (if m.isW e.tgt then ⟨t.ents.set i e.off,t.q,t.ph,t.nx,t.fd⟩ else t,m)
def Tb.step (t:Tb) (m:Mk):Int×Int×Int×Tb×Mk:=
 if t.ph=0 then (0,0,13,t,m) else
 let s:=t.settle m
 if s.ph=3 then (3,m.step.1,0,s.settle m.step.2.2,m.step.2.2)
 else if s.ents.length<=s.nx then (0,0,3,s.at 0 0,m)
 else let c:=s.clear m s.nx;((s.ph:Int),(s.nx:Int),0,(c.1.at s.ph (s.nx+1)).settle c.2,c.2)
section
variable {t:Tb} {m:Mk} {l:List En} {k:Int} {n i:Nat}
theorem mX:nxt l k n<=l.length:=aDn _ _
theorem mY (h:nxt l k n<l.length):n<=nxt l k n/\(eAt l (nxt l k n)).kind=k:=by
 have:=(dQ (fun i=>decide (n<=i) && decide ((eAt l i).kind=k)) l.length).2 h;simp only [Bool.and_eq_true,decide_eq_true_eq] at this;exact this
theorem wF (y:n<=i) (z:i<nxt l k n):(eAt l i).kind≠k:=fun e=>by
 have:=(dQ (fun i=>decide (n<=i) && decide ((eAt l i).kind=k)) l.length).1 i z;simp [y,e] at this
theorem jX {e:En} (y:i<l.length) (j:Nat):eAt (l.set i e) j=if j=i then e else eAt l j:=by
 unfold eAt;rw [List.getElem?_set]
 by_cases h:i=j
 ·subst h;rw [if_pos rfl,if_pos y,if_pos rfl];rfl
 rw [if_neg h,if_neg (Ne.symm h)]
end
end Go.Proofs.YthflghdaejbdkaaGreat
