/- Lemmas of this claim. -/
import Derived.Test.YthflghdaejbdkaaGreatIterLay
import Derived.Test.YthflghdaejbdkaaGreatXcObjG
import Derived.Lib.SlKeysI
import Derived.Test.YthflghdaejbdkaaGreatXcOFam
import Derived.OwnWalk
import Derived.Test.YthflghdaejbdkaaGreatXcOModel
import Derived.Test.YthflghdaejbdkaaGreatXcInts
import Derived.Laws.StructEq
import Derived.Test.YthflghdaejbdkaaGreatXcRBlockE
import Derived.Test.YthflghdaejbdkaaGreatXcOFull
namespace Go.Proofs.YthflghdaejbdkaaGreat
open Go.RowKit Go.Maps Go.Sort Go.Shelf
set_option maxHeartbeats 3200000
set_option maxRecDepth 100000
set_option linter.unusedVariables false
theorem aPH (m:Nat):AnyZI.SortsIn Tryz.prog Tryz.sortedA_ren Fence.wide m:=
 ⟨fun z e cap ss W hH y d=>callsIn_wide.2 (AnyM.slices_Sort_int Tryz.sortA z e cap ss W hH y d),
  fun p cap W=>callsIn_wide.2 (AnyM.slices_Sort_int_none Tryz.sortA p cap W)⟩
theorem aIU {P:Program} {k:TypeId} {R:Value->Option (DataW Unit×List MemPlace)} {w:World} {b n:Nat} {D:DataW Unit} (d:w.ownsMap P k R b n D) (K:Keyed P k) (hk:P.underlying k=some (.int .i64)) {l ss:List Int} (hl:l.Pairwise (·<·)) (hm:∀ x,x∈l->wfI x) (hh:∀ x,wfI x->(Maps.has D (.int .i64 x)=true↔x∈l)) (hp:ss.Perm (intKeys D)) :
  ss.mergeSort (fun x y=>decide (x<=y))=l:=by
 obtain ⟨es,hD,h6,_⟩:=d.entries K;obtain ⟨h3,h0,h4⟩:=d.keysOf;obtain rfl:es=h3:=by rw [hD] at h0;simpa using h0
 subst hD;have h5:l.Nodup:=hl.imp (fun h e=>by omega);have z:∀ p∈es,∃ x,p.1=.int .i64 x/\wfI x:=fun p hp=>by
  obtain ⟨v,hv⟩:=h4 p hp;obtain ⟨x,_,hx,hw⟩:=Maps.keyOf_i64 hk hv;exact ⟨x,hx,hw⟩
 have h1:l.Perm (intKeys (.map es)):=perm_intKeys h6 (fun p hp=>by obtain ⟨x,hx,_⟩:=z p hp;exact ⟨x,hx⟩) h5 (fun x=>by
  constructor
  ·intro hx;exact (hh x (hm x hx)).2 hx
  intro hx;refine (hh x ?_).1 hx;simp only [Maps.has,List.any_eq_true] at hx;obtain ⟨p,hp,hs⟩:=hx;obtain ⟨y,hy,hw⟩:=z p hp;rw [hy] at hs;have e:y=x:=by simpa [Lit.sameKey] using hs
  rw [<-e];exact hw)
 have h2:=mergeSort_of_perm_i (hp.trans h1.symm);show ss.mergeSort leI=l;rw [h2];exact List.mergeSort_of_pairwise (hl.imp (fun h=>by simp only [leI,decide_eq_true_eq];omega))
theorem aIi {w w':World} {B:Nat} (h:Below B w w') (y:B=w.heap.size):Only [] w w':=by
 subst y;exact ⟨h.os,h.tape,h.output,h.size,fun k z _=>h.block k z⟩
theorem aAm (w:World) (y:Option Nat):Calls Tryz.prog 135 #[.map y] w fun e w'=>e=.returned (.func (.func 204) #[] #[.pointer (some ⟨w.heap.size,0,none⟩)])/\w'=w.alloc (.cells #[.map y] 173):=
 callsIn_wide.1 (AnyZI.keys_in Tryz.keysA Fence.wide 5 trivial rfl y w)
theorem vT {w:World} {z n:Nat} {f:Int->Option Nat} (h:dO w z n f) (hn:n<=1000000) {l:List Int} (hl:l.Pairwise (·<·)) (hm:∀ x,x∈l->wfI x) (hf:∀ x,wfI x->((f x).isSome=true↔x∈l)) :
  Calls Tryz.prog 133 #[.func (.func 204) #[] #[.pointer (some ⟨w.heap.size,0,none⟩)]] (w.alloc (.cells #[.map (some z)] 173)) fun e w'=>
   ∃ v,e=.returned v/\aK w' w.heap.size v l/\Only [] w w':=by
 obtain ⟨D,hD,h2⟩:=h;have h3:=hD.lt;have h4:=hD.size_le;have h1:SeqGives Fence.wide 2 Tryz.prog 204 #[.pointer (some ⟨w.heap.size,0,none⟩)] encZ (fun ss=>ss.Perm (intKeys D)) (Maps.size D) (w.alloc (.cells #[.map (some z)] 173)):=
  AnyZI.keys_gives (ρ:=Tryz.keysA_ren) { Tryz.keysA with } Fence.wide _ trivial rfl (by omega) w.heap.size z n D _ (by simp) (by simp) (hD.alloc _)
 have cS:=AnyZI.sorted_in Tryz.sortedA Fence.wide 5 trivial trivial trivial trivial rfl (by omega) (aPH _) (enters_of Tryz.func202 (by kernel_rfl) rfl) 204 #[.pointer (some ⟨w.heap.size,0,none⟩)] trivial (enters_of Tryz.func204 (by kernel_rfl) rfl) _ _ (by simp only [maxLen];omega) (by omega) _ h1;change CallsIn _ _ Tryz.prog 133 _ _ _ at cS;refine (callsIn_wide.1 cS).mono ?_;rintro e w' ⟨v,ss,rfl,hS,y,_,hb⟩;have d:=aIU hD jI Tryz.underlying3 hl hm (fun x hx=>by rw [(h2 x hx).1];exact hf x hx) hS;have h0:ss.length=l.length:=by rw [<-d,List.length_mergeSort]
 rw [d,h0] at y;have ho:=aIi hb rfl;refine ⟨v,rfl,?_,((Only.refl [] w).alloc _).trans ho (by simp)⟩;have hI:aK w' (w.alloc (.cells #[.map (some z)] 173)).heap.size v l:=y;exact hI.base (by simp)
theorem Hp.yY (M:Hp) (k:Nat):(M.aZ k).Pairwise (·<·):=by
 induction k with
 | zero=>exact List.Pairwise.nil
 | succ k d=>
  unfold Hp.aZ;refine List.pairwise_append.2 ⟨d,by split<;>simp,fun a y b hb=>?_⟩
  have e:b=(k:Int)+1:=by
   split at hb
   ·simpa using hb
   simp at hb
  have:∀ j,∀ a,a∈M.aZ j->a<(j:Int)+1:=by
   intro j
   induction j with
   | zero=>intro a y;simp [Hp.aZ] at y
   | succ j z=>
    intro a y;unfold Hp.aZ at y;rw [List.mem_append] at y;rcases y with y|y
    ·have:=z a y;omega
    split at y
    ·simp at y;omega
    simp at y
  have:=this k a y;omega
theorem Hp.aCY {M:Hp} {k:Nat} {x:Int}:x∈M.aZ k↔∃ j:Nat,j<k/\x=(j:Int)+1/\(M.ob x).isSome=true:=by
 induction k with
 | zero=>simp [Hp.aZ]
 | succ k ih=>
  unfold Hp.aZ;rw [List.mem_append,ih];constructor
  ·rintro (⟨j,d,y,z⟩|h)
   ·exact ⟨j,by omega,y,z⟩
   split at h
   ·rename_i hs;simp at h;subst h;exact ⟨k,by omega,rfl,hs⟩
   simp at h
  rintro ⟨j,d,y,z⟩
  by_cases e:j=k
  ·right;subst e;subst y;rw [if_pos z];simp
  exact .inl ⟨j,by omega,y,z⟩
theorem Hp.Ok.yN {M:Hp} (y:M.Ok) {x:Int}:x∈M.handles↔(M.ob x).isSome=true:=by
 unfold Hp.handles;rw [Hp.aCY];constructor
 ·rintro ⟨_,_,_,h⟩;exact h
 intro h;obtain ⟨o,z⟩:=Option.isSome_iff_exists.1 h;have:=y.hr x o z;exact ⟨x.toNat - 1,by omega,by omega,h⟩
theorem yX {L:Nat->Option Lb} {hb:Nat} {M:Hp} {X:HX} (w:World) (h:dK w L hb M X) (d:M.Ok):Calls Tryz.prog 62 #[.pointer (some ⟨hb,0,none⟩)] w (aNP w M.handles):=by
 refine aF fun R hR=>?_;have h1:=jJ w h;have c1:=h.cells.2.1;have y:=aAm w (some X.mb);have z:=vT h.mp (by omega) (l:=M.handles) (Hp.yY M 192) (fun x hx=>by
  obtain ⟨o,ho⟩:=Option.isSome_iff_exists.1 (d.yN.1 hx);have:=d.hr x o ho;exact dL (by omega)) (fun x _=>by
  rw [d.yN]
  cases M.ob x<;>simp)
 clear h d;go_in;go_wp2_with fail;refine h1.mono ?_;rintro e _ ⟨rfl,rfl⟩;go_wp2_with fail;refine y.mono ?_;rintro e _ ⟨rfl,rfl⟩;go_wp2_with fail;refine z.mono ?_;rintro e w5 ⟨v,rfl,hi,ho⟩;have HI:=aA hi;have HO:=aA ho;clear h1 y z hi ho;go_wp2;exact hR.out _ _ ⟨v,rfl,HI.out,HO.out⟩
end Go.Proofs.YthflghdaejbdkaaGreat
namespace Go.Proofs.YthflghdaejbdkaaGreat
open Go.RowKit Go.Maps
set_option maxHeartbeats 12800000
set_option maxRecDepth 100000
set_option linter.unusedVariables false
theorem Hp.Ok.wfH {M:Hp} (y:M.Ok) {k:Int} (h:(M.ob k).isSome=true):wfI k:=by
 obtain ⟨o,z⟩:=Option.isSome_iff_exists.1 h;have:=y.hr k o z;exact dL (by omega)
theorem aFW {l:List Int} {i:Nat} (h:i<l.length):gI l i=l[i]:=by unfold gI;rw [List.getElem?_eq_getElem h];rfl
theorem aQB {l:List Bool} {i j:Nat} {v:Bool} (y:i<l.length):gB (l.set i v) j=if j=i then v else gB l j:=by
 unfold gB;rw [List.getElem?_set]
 by_cases e:i=j
 ·subst e;rw [if_pos rfl,if_pos y,if_pos rfl];rfl
 rw [if_neg e,if_neg (Ne.symm e)]
section
variable {M:Hp} {i k:Nat} {o o2:Th} {bits:List Bool}
end
theorem aMn (n:Nat) (hn:n<=1000):∃ C:Array Value,C.toList=(List.replicate n false).map Value.bool/\∀ y:World,(Instr.makeSlice 50 (.int .i64 (n:Int)) (.int .i64 (n:Int))).run Tryz.prog y=.ok (.slice (some ⟨y.heap.size,0,none⟩) n n) (y.alloc (.cells C 4)):=by
 obtain ⟨i0,d,e,z,h0⟩:=info_parts wP;refine ⟨madeCells (Value.bool false).cells (n*1),by rw [aMp,List.map_replicate],fun y=>?_⟩;rw [run_makeSlice (P:=Tryz.prog) (w:=y) 50 4 i0 _ Tryz.underlying50 d e .i64 .i64 _ _ (by omega) (by omega) (by rw [z];omega) (by rw [h0];omega) (by omega),z];rfl
end Go.Proofs.YthflghdaejbdkaaGreat
namespace Go.Proofs.YthflghdaejbdkaaGreat
set_option linter.unusedVariables false
set_option maxRecDepth 100000
def Hp.fJ (M:Hp) (y:List Int):Prop:=∃ x,x∈y/\x≠0/\M.ob x=none
section
variable {M:Hp} {roots:List Int}
theorem Hp.Ok.aRI (hk:M.Ok) {x y:Int} {o:Th} (ho:M.ob x=some o) (hy:y∈o.vV):(M.ob y).isSome=true/\1<=y/\y<=192:=by
 obtain ⟨s,hs,h1,h2,h3⟩:=Th.aCJ hy;have z:=hk.sl x o ho s hs;rw [h1,h2] at z;have e:(M.ob y).isSome=true:=by
  unfold Hp.fits at z;simp only [if_true,Bool.or_eq_true,decide_eq_true_eq] at z;rcases z with z|z
  ·exact absurd z h3
  exact z
 obtain ⟨o',d⟩:=Option.isSome_iff_exists.1 e;exact ⟨e,hk.hr y o' d⟩
end
def jO (f:Int->Int) (k v:Int):Int->Int:=fun j=>if j=k then v else f j
theorem bY (f:Int->Int) (k v:Int):jO f k v k=v:=if_pos rfl
theorem bG (f:Int->Int) {k j:Int} (v:Int) (h:j≠k):jO f k v j=f j:=if_neg h
structure Mk where
 M:Hp
 col:Int->Int
 list:List Int
def Mk.wh (m:Mk) (x:Int):Bool:=decide (x≠0) && (m.M.ob x).isSome && decide (m.col x=0)
def Mk.bI (m:Mk) (x:Int):Mk:=if m.wh x then ⟨m.M,jO m.col x 1,m.list ++ [x]⟩ else m
def Mk.bC (m:Mk) (l:List Int):Mk:=l.foldl Mk.bI m
def Mk.put (m:Mk) (M:Hp):Mk:=⟨M,m.col,m.list⟩
def bT (l:List Int) (x:Int):List Int:=l.filter (fun y=>decide (y≠x))
def Mk.black (m:Mk) (x:Int):Mk:=⟨m.M,jO m.col x 2,bT m.list x⟩
def Mk.forget (m:Mk) (x:Int):Mk:=⟨m.M,jO m.col x 0,bT m.list x⟩
def Mk.start (M:Hp):Mk:=⟨M,fun _=>0,[]⟩
def Mk.next (m:Mk):Int×Int:=match m.list with|[]=>(0,3)|h :: _=>(h,0)
def Mk.dN (m:Mk) (h:Int):Mk:=(⟨m.M,jO m.col h 2,m.list.drop 1⟩:Mk).bC (m.M.refs h).1
def Mk.step (m:Mk):Int×Int×Mk:=match m.list with|[]=>(0,3,m)|h :: _=>(h,0,m.dN h)
def Mk.store (m:Mk) (h s v:Int):Int×Mk:=
 let r:=m.M.set h s v
 (r.1,if r.1=0/\(m.M.isRef h s).1=true then ((m.put r.2).bI (m.M.get h s).1).bI v else m.put r.2)
def Mk.made (m:Mk) (r:Int×Int×Hp):Int×Int×Mk:=(r.1,r.2.1,if r.2.1=0 then (m.put r.2.2).black r.1 else m.put r.2.2)
def Mk.aH (m:Mk) (c:Int) (l:List Bool):Int×Int×Mk:=m.made (m.M.aH c l)
def Mk.aG (m:Mk) (k c n:Int):Int×Int×Mk:=m.made (m.M.aG k c n)
def Mk.jS (m:Mk) (x:Int):Int:=if x≠0/\(m.M.ob x).isSome=false then 3 else 0
def Mk.color (m:Mk) (x:Int):Int×Int:=if (m.M.ob x).isSome then (m.col x,0) else (0,3)
def Mk.white (m:Mk):List Int:=m.M.handles.filter (fun x=>decide (m.col x=0))
structure Mk.Ok (m:Mk):Prop where
 hf:m.M.OkF
 rg:∀ k,m.col k=0\/m.col k=1\/m.col k=2
 us:∀ k,m.col k≠0->(m.M.ob k).isSome=true
 nd:m.list.Nodup
 gr:∀ k,k∈m.list↔m.col k=1
section
variable {m:Mk} {x:Int}
theorem Hp.Ok.inR {M:Hp} (y:M.Ok) (h:(M.ob x).isSome=true):1<=x/\x<=192:=by
 obtain ⟨o,z⟩:=Option.isSome_iff_exists.1 h;exact y.hr x o z
theorem Mk.kL:m.wh x=true↔x≠0/\(m.M.ob x).isSome=true/\m.col x=0:=by
 unfold Mk.wh;simp [and_assoc]
theorem Mk.Ok.aCj (h:m.Ok) (hx:x∈m.list):(m.M.ob x).isSome=true:=h.us x (by rw [(h.gr x).1 hx];decide)
theorem Mk.Ok.inR (h:m.Ok) (hx:x∈m.list):1<=x/\x<=192:=h.hf.ok.inR (h.aCj hx)
theorem aFG {l:List Int} (hn:l.Nodup) (d:∀ x∈l,1<=x/\x<=192):l.length<=192:=by
 have h:(l.map Int.toNat).Nodup:=by
  rw [List.nodup_iff_pairwise_ne,List.pairwise_map];rw [List.nodup_iff_pairwise_ne] at hn;refine hn.imp_of_mem ?_;intro a b z hb h0 e;have:=d a z;have:=d b hb;exact h0 (by omega)
 have h2:(l.map Int.toNat) ⊆ List.range 193:=by
  intro y hy;obtain ⟨a,z,rfl⟩:=List.mem_map.1 hy;have:=d a z;rw [List.mem_range];omega
 have h3:0∉l.map Int.toNat:=by
  intro hy;obtain ⟨a,z,e⟩:=List.mem_map.1 hy;have:=d a z;omega
 have h4:(0 :: l.map Int.toNat).Nodup:=List.nodup_cons.2 ⟨h3,h⟩;have h5:(0 :: l.map Int.toNat) ⊆ List.range 193:=List.cons_subset.2 ⟨by simp,h2⟩;have h6:=(jT h4 (l2:=List.range 193) (fun x hx=>h5 hx)).1;simp at h6;omega
theorem Mk.Ok.len (h:m.Ok):m.list.length<=192:=aFG h.nd (fun x hx=>h.inR hx)
theorem Mk.Ok.bI (h:m.Ok) (x:Int):(m.bI x).Ok:=by
 unfold Mk.bI;split
 ·rename_i hw;obtain ⟨h1,d,h3⟩:=Mk.kL.1 hw;refine ⟨h.hf,fun k=>?_,fun k hk=>?_,?_,fun k=>?_⟩
  ·show jO m.col x 1 k=0\/jO m.col x 1 k=1\/jO m.col x 1 k=2
   by_cases e:k=x
   ·rw [e,bY];exact .inr (.inl rfl)
   rw [bG _ _ e];exact h.rg k
  ·have y:jO m.col x 1 k≠0:=hk
   by_cases e:k=x
   ·rw [e];exact d
   rw [bG _ _ e] at y;exact h.us k y
  ·show (m.list ++ [x]).Nodup;rw [List.nodup_append];refine ⟨h.nd,by simp,fun a z b hb e=>?_⟩;simp at hb;rw [e,hb] at z;have:=(h.gr x).1 z;omega
  show k∈m.list ++ [x]↔jO m.col x 1 k=1;rw [List.mem_append]
  by_cases e:k=x
  ·rw [e,bY];simp
  rw [bG _ _ e,h.gr k];simp [e]
 exact h
theorem Mk.lS:(m.bI x).M=m.M:=by unfold Mk.bI;split<;>rfl
theorem Mk.kN (l:List Int):∀ m:Mk,(m.bC l).M=m.M:=by
 induction l with
 | nil=>intro m;rfl
 | cons a l y=>intro m;exact (y (m.bI a)).trans Mk.lS
theorem Mk.Ok.bC (l:List Int):∀ m:Mk,m.Ok->(m.bC l).Ok:=by
 induction l with
 | nil=>intro m h;exact h
 | cons a l y=>intro m h;exact y _ (h.bI a)
theorem Mk.qQ (k:Int):(m.bI x).col k=m.col k\/(k=x/\m.wh x=true/\m.col k=0/\(m.bI x).col k=1):=by
 unfold Mk.bI;split
 ·rename_i hw;show jO m.col x 1 k=m.col k\/_
  by_cases e:k=x
  ·exact .inr ⟨e,hw,by rw [e];exact (Mk.kL.1 hw).2.2,by rw [e];exact bY _ _ _⟩
  exact .inl (bG _ _ e)
 exact .inl rfl
theorem Mk.oG (l:List Int) (k:Int):∀ m:Mk,(m.bC l).col k=m.col k\/(k∈l/\k≠0/\(m.M.ob k).isSome=true/\m.col k=0/\(m.bC l).col k=1):=by
 induction l with
 | nil=>intro m;exact .inl rfl
 | cons a l ih=>
  intro m;have y:=ih (m.bI a);show ((m.bI a).bC l).col k=_\/(_/\_/\_/\_/\((m.bI a).bC l).col k=1);rcases Mk.qQ (m:=m) (x:=a) k with z|⟨z,e,h4,h5⟩
  ·rw [z] at y;rw [Mk.lS] at y;rcases y with y|⟨y,h6,h7,d,h9⟩
   ·exact .inl y
   exact .inr ⟨List.mem_cons_of_mem _ y,h6,h7,d,h9⟩
  rcases y with y|⟨_,_,_,d,_⟩
  ·obtain ⟨w1,w2,w3⟩:=Mk.kL.1 e;exact .inr ⟨by rw [z];exact List.mem_cons_self,by rw [z];exact w1,by rw [z];exact w2,h4,by rw [y,h5]⟩
  omega
theorem aEI {l:List Int} {k:Int}:k∈bT l x↔k∈l/\k≠x:=by unfold bT;simp
theorem aCh {l:List Int} (h:x∉l):bT l x=l:=by
 unfold bT;rw [List.filter_eq_self];intro a y;simp;intro e;exact h (by rw [<-e];exact y)
theorem aBh {l:List Int} (h:l.Nodup):(bT l x).Nodup:=h.filter _
theorem Mk.Ok.black (h:m.Ok) (hx:(m.M.ob x).isSome=true):(m.black x).Ok:=by
 refine ⟨h.hf,fun k=>?_,fun k hk=>?_,aBh h.nd,fun k=>?_⟩
 ·show jO m.col x 2 k=0\/jO m.col x 2 k=1\/jO m.col x 2 k=2
  by_cases e:k=x
  ·rw [e,bY];exact .inr (.inr rfl)
  rw [bG _ _ e];exact h.rg k
 ·have y:jO m.col x 2 k≠0:=hk
  by_cases e:k=x
  ·rw [e];exact hx
  rw [bG _ _ e] at y;exact h.us k y
 show k∈bT m.list x↔jO m.col x 2 k=1;rw [aEI]
 by_cases e:k=x
 ·rw [e,bY];simp
 rw [bG _ _ e,h.gr k];simp [e]
theorem Mk.Ok.start {M:Hp} (h:M.OkF):(Mk.start M).Ok:=⟨h,fun _=>.inl rfl,fun k hk=>absurd rfl hk,by simp [Mk.start],fun k=>by simp [Mk.start]⟩
theorem Mk.Ok.put (h:m.Ok) {M:Hp} (y:M.OkF) (d:∀ k,(m.M.ob k).isSome=true->(M.ob k).isSome=true):(m.put M).Ok:=
 ⟨y,h.rg,fun k z=>d k (h.us k z),h.nd,h.gr⟩
theorem vM {h:Int} {t:List Int} (e:m.list=h :: t) (y:m.list.Nodup):(⟨m.M,jO m.col h 2,m.list.drop 1⟩:Mk)=m.black h:=by
 unfold Mk.black;rw [e] at y ⊢;have:bT (h :: t) h=t:=by
  have z:=(List.nodup_cons.1 y).1;show List.filter _ (h :: t)=t;rw [List.filter_cons_of_neg (by simp)];exact aCh z
 rw [this];rfl
theorem Mk.Ok.dN (h:m.Ok) {x:Int} {t:List Int} (e:m.list=x :: t):(m.dN x).Ok:=by
 unfold Mk.dN;rw [vM e h.nd];exact Mk.Ok.bC _ _ (h.black (h.aCj (by rw [e];simp)))
theorem Mk.Ok.step (h:m.Ok):m.step.2.2.Ok:=by
 unfold Mk.step
 cases e:m.list with
 | nil=>exact h
 | cons x t=>exact h.dN e
theorem Mk.mY:m.step.2.2.M=m.M:=by
 unfold Mk.step
 cases e:m.list with
 | nil=>rfl
 | cons x t=>exact Mk.kN _ _
def Mk.left (m:Mk):Nat:=cnt (fun k=>(m.M.ob ((k:Int)+1)).isSome && decide (m.col ((k:Int)+1)≠2)) 192
theorem Mk.left_le:m.left<=192:=qN _ _
theorem Mk.left_step (h:m.Ok) (e:m.list≠[]):m.step.2.2.left+1=m.left:=by
 unfold Mk.step
 cases z:m.list with
 | nil=>exact absurd z e
 | cons x t=>
  obtain ⟨h1,h2⟩:=h.inR (x:=x) (by rw [z];simp);have hc:m.col x=1:=(h.gr x).1 (by rw [z];simp);have hu:=h.aCj (x:=x) (by rw [z];simp);obtain ⟨k0,h0,hx⟩:∃ k:Nat,k<192/\x=(k:Int)+1:=⟨(x - 1).toNat,by omega,by omega⟩;show (m.dN x).left+1=m.left;have hl:(m.dN x).left=cnt (up (fun k=>(m.M.ob ((k:Int)+1)).isSome && decide (m.col ((k:Int)+1)≠2)) k0 false) 192:=fG fun j hj=>by
   have hM:(m.dN x).M=m.M:=Mk.kN _ _;rw [hM]
   by_cases ej:j=k0
   ·rw [ej,bM,<-hx];have y:(m.dN x).col x=2:=by
     rcases Mk.oG (m.M.refs x).1 x ⟨m.M,jO m.col x 2,m.list.drop 1⟩ with h3|⟨_,_,_,d,_⟩
     ·exact h3.trans (bY _ _ _)
     rw [show (⟨m.M,jO m.col x 2,m.list.drop 1⟩:Mk).col x=2 from bY _ _ _] at d;omega
    rw [y];simp
   rw [aU _ _ ej];have h6:(j:Int)+1≠x:=by omega
   have y:(m.dN x).col ((j:Int)+1)=2↔m.col ((j:Int)+1)=2:=by
    have e0:(⟨m.M,jO m.col x 2,m.list.drop 1⟩:Mk).col ((j:Int)+1)=m.col ((j:Int)+1):=bG _ _ h6;rcases Mk.oG (m.M.refs x).1 ((j:Int)+1) ⟨m.M,jO m.col x 2,m.list.drop 1⟩ with h3|⟨_,_,_,d,h5⟩
    ·rw [show (m.dN x).col ((j:Int)+1)=_ from h3,e0]
    rw [e0] at d;rw [show (m.dN x).col ((j:Int)+1)=1 from h5,d];omega
   congr 1;rw [decide_eq_decide];exact not_congr y
  rw [hl];exact sJ h0 (by rw [<-hx,hu,hc];rfl)
theorem Hp.lT (M:Hp) (h s v k:Int):((M.set h s v).2.ob k).isSome=(M.ob k).isSome:=by
 unfold Hp.set
 cases e:M.ob h with
 | none=>rfl
 | some o=>
  simp only;split
  ·rfl
  split
  ·show (dZ M.ob h _ k).isSome=_
   by_cases y:k=h
   ·rw [y,aY,e];rfl
   rw [bD _ _ y]
  rfl
theorem Hp.add_facts (M:Hp) (o:Th):(∀ k,(M.ob k).isSome=true->(M.add o).2.2.ob k=M.ob k)/\((M.add o).2.1=0->M.ob (M.add o).1=none/\∃ bs,(M.add o).2.2.ob (M.add o).1=some { o with blocks:=bs }/\∀ k,k≠(M.add o).1->(M.add o).2.2.ob k=M.ob k)/\((M.add o).2.1≠0->(M.add o).2.2=M/\(M.add o).1=0):=by
 unfold Hp.add;split
 ·rename_i hl;have z:=M.oO hl
  cases e:dF M.P (aS o.slots.length) (aS o.slots.length).length with
  | none=>exact ⟨fun _ _=>rfl,fun h=>absurd (show (14:Int)=0 from h) (by decide),fun _=>⟨rfl,rfl⟩⟩
  | some r=>
   obtain ⟨bs,Q⟩:=r;simp only;refine ⟨fun k y=>?_,fun _=>⟨z,bs,aY _ _ _,fun k y=>bD _ _ y⟩,fun h=>absurd rfl h⟩;exact bD _ _ (fun d=>by rw [d,z] at y;cases y)
 exact ⟨fun _ _=>rfl,fun h=>absurd (show (14:Int)=0 from h) (by decide),fun _=>⟨rfl,rfl⟩⟩
structure uZ (M:Hp) (r:Int×Int×Hp):Prop where
 ok:M.OkF->r.2.2.OkF
 old:∀ k,(M.ob k).isSome=true->r.2.2.ob k=M.ob k
 no:r.2.1≠0->r.2.2=M/\r.1=0
 yes:r.2.1=0->M.ob r.1=none/\(∀ k,k≠r.1->r.2.2.ob k=M.ob k)/\∃ o,r.2.2.ob r.1=some o/\∀ s,gI o.slots s=0
theorem uZ.add (M:Hp) {o:Th} (ho:o.ok1) (y:∀ s,gI o.slots s=0):uZ M (M.add o):=by
 obtain ⟨z,d,h3⟩:=M.add_facts o;exact ⟨fun h=>h.add ho y,z,h3,fun e=>by
  obtain ⟨a,bs,b,c⟩:=d e;exact ⟨a,c,_,b,y⟩⟩
theorem uZ.none (M:Hp) {e:Int} (y:e≠0):uZ M (0,e,M):=⟨id,fun _ _=>rfl,fun _=>⟨rfl,rfl⟩,fun h=>absurd h y⟩
theorem Hp.dW (M:Hp) (c:Int) (l:List Bool):uZ M (M.aH c l):=by
 unfold Hp.aH;split
 ·exact uZ.none M (by decide)
 rename_i y;exact uZ.add M (pX y).1 (pX y).2
theorem Hp.fA (M:Hp) (k c n:Int):uZ M (M.aG k c n):=by
 unfold Hp.aG;split
 ·exact uZ.none M (by decide)
 rename_i y;split
 ·rename_i hd;exact uZ.add M (qG y hd).1 (qG y hd).2
 exact uZ.none M (by decide)
theorem Mk.Ok.made (h:m.Ok) {r:Int×Int×Hp} (y:uZ m.M r):(m.made r).2.2.Ok:=by
 have z:(m.put r.2.2).Ok:=h.put (y.ok h.hf) (fun k d=>by rw [y.old k d];exact d);unfold Mk.made;split
 ·rename_i e;obtain ⟨_,_,o,ho,_⟩:=y.yes e;exact z.black (by show (r.2.2.ob r.1).isSome=true;rw [ho];rfl)
 exact z
theorem Mk.Ok.aH (h:m.Ok) (c:Int) (l:List Bool):(m.aH c l).2.2.Ok:=h.made (m.M.dW c l)
theorem Mk.Ok.aG (h:m.Ok) (k c n:Int):(m.aG k c n).2.2.Ok:=h.made (m.M.fA k c n)
theorem Mk.Ok.store (h:m.Ok) (a s v:Int):(m.store a s v).2.Ok:=by
 have y:(m.put (m.M.set a s v).2).Ok:=h.put (h.hf.set a s v) (fun k z=>by rw [Hp.lT];exact z);unfold Mk.store;simp only;split
 ·exact (y.bI _).bI _
 exact y
theorem aMa {M:Hp} (d:M.Ok) {y:Int} (z:y∈(M.refs x).1):y≠0/\(M.ob y).isSome=true:=by
 unfold Hp.refs at z
 cases e:M.ob x with
 | none=>rw [e] at z;cases z
 | some o=>
  rw [e] at z;have:=d.aRI e z;exact ⟨by omega,this.1⟩
end
set_option maxHeartbeats 1600000
section
variable {m:Mk} {roots:List Int} {x k:Int}
theorem Mk.aBl (h:m.Ok) {x:Int} {t:List Int} (e:m.list=x :: t) (k:Int):(m.dN x).col k=2/\k=x\/k≠x/\(m.dN x).col k=m.col k\/k≠x/\m.col k=0/\(m.dN x).col k=1/\k∈(m.M.refs x).1:=by
 by_cases y:k=x
 ·left;rw [y];refine ⟨?_,rfl⟩;rcases Mk.oG (m.M.refs x).1 x ⟨m.M,jO m.col x 2,m.list.drop 1⟩ with d|⟨_,_,_,z,_⟩
  ·exact d.trans (bY _ _ _)
  rw [show (⟨m.M,jO m.col x 2,m.list.drop 1⟩:Mk).col x=2 from bY _ _ _] at z;omega
 have e0:(⟨m.M,jO m.col x 2,m.list.drop 1⟩:Mk).col k=m.col k:=bG _ _ y;rcases Mk.oG (m.M.refs x).1 k ⟨m.M,jO m.col x 2,m.list.drop 1⟩ with d|⟨h1,_,_,z,h5⟩
 ·exact .inr (.inl ⟨y,d.trans e0⟩)
 rw [e0] at z;exact .inr (.inr ⟨y,z,h5,h1⟩)
def Mk.used (m:Mk):Nat:=cnt (fun k=>(m.M.ob ((k:Int)+1)).isSome) 192
theorem aDj (M:Hp) (k:Nat):(M.aZ k).length=cnt (fun j=>(M.ob ((j:Int)+1)).isSome) k:=by
 induction k with
 | zero=>rfl
 | succ k y=>
  unfold Hp.aZ cnt;rw [List.length_append,y];split<;>rfl
theorem Mk.aLt (m:Mk):m.used=m.M.handles.length:=(aDj m.M 192).symm
end
section
variable {m:Mk} {K:List Int} {x k:Int}
theorem xJ (M:Hp) (a s v:Int):((M.set a s v).1≠0/\(M.set a s v).2=M)\/∃ o,∃ j:Nat,s=(j:Int)/\M.ob a=some o/\j<o.slots.length/\M.fits (gB o.refs j) v=true/\(M.set a s v).1=0/\(M.set a s v).2.ob=dZ M.ob a (some (o.put j v))/\(M.isRef a s).1=gB o.refs j/\(M.get a s).1=gI o.slots j:=by
 unfold Hp.set Hp.isRef Hp.get
 cases e:M.ob a with
 | none=>exact .inl ⟨show (3:Int)≠0 by decide,rfl⟩
 | some o=>
  simp only
  by_cases h:s<0\/(o.slots.length:Int)<=s
  ·rw [if_pos h];exact .inl ⟨show (1:Int)≠0 by decide,rfl⟩
  rw [if_neg h,if_neg h,if_neg h]
  by_cases y:M.fits (gB o.refs s.toNat) v=true
  ·rw [if_pos y];exact .inr ⟨o,s.toNat,by omega,rfl,by omega,y,rfl,rfl,rfl,rfl⟩
  rw [if_neg y];exact .inl ⟨show (1:Int)≠0 by decide,rfl⟩
end
end Go.Proofs.YthflghdaejbdkaaGreat
namespace Go.Proofs.YthflghdaejbdkaaGreat
set_option linter.unusedVariables false
set_option maxRecDepth 100000
structure En where
 kind:Int
 tgt:Int
 tag:Int
structure Tb where
 ents:List En
 q:List Int
 ph:Nat
 nx:Nat
 fd:Nat->Bool
def eAt (l:List En) (i:Nat):En:=l[i]?.getD ⟨0,0,0⟩
def Tb.new:Tb:=⟨[],[],0,0,fun _=>false⟩
def Mk.isW (m:Mk) (x:Int):Bool:=(m.M.ob x).isSome && decide (m.col x=0)
def nxt (l:List En) (k:Int) (n:Nat):Nat:=fst (fun i=>decide (n<=i) && decide ((eAt l i).kind=k)) l.length
def Tb.at (t:Tb) (y nx:Nat):Tb:=⟨t.ents,t.q,y,nx,t.fd⟩
def Tb.aAf (t:Tb) (n:Nat):Tb:=t.at 4 (nxt t.ents 3 n)
def Tb.pU (t:Tb) (m:Mk):Tb:=if m.list=[] then t.aAf 0 else t.at 3 0
def Tb.set2 (t:Tb) (m:Mk) (n:Nat):Tb:=if nxt t.ents 2 n<t.ents.length then t.at 2 (nxt t.ents 2 n) else t.pU m
def Tb.find (t:Tb) (m:Mk):Tb:=⟨t.ents,t.q,t.ph,t.nx,fun i=>decide ((eAt t.ents i).kind=2) && m.isW (eAt t.ents i).tgt⟩
def Tb.set1 (t:Tb) (m:Mk) (n:Nat):Tb:=if nxt t.ents 1 n<t.ents.length then t.at 1 (nxt t.ents 1 n) else (t.find m).set2 m 0
def Tb.settle (t:Tb) (m:Mk):Tb:=if t.ph=1 then t.set1 m t.nx else if t.ph=2 then t.set2 m t.nx else if t.ph=3 then t.pU m else if t.ph=4 then t.aAf t.nx else t
def Tb.add (t:Tb) (m:Mk) (k x g:Int):Int×Int×Tb:=
 if k<1\/3<k then (0,1,t) else if t.ph≠0 then (0,13,t) else if (m.M.ob x).isSome=false then (0,3,t) else if 20<=t.ents.length then (0,2,t)
 else (t.ents.length,0,⟨t.ents ++ [⟨k,x,g⟩],t.q,t.ph,t.nx,t.fd⟩)
def Tb.target (t:Tb) (i:Int):Int×Int:=if i<0\/(t.ents.length:Int)<=i then (0,1) else ((eAt t.ents i.toNat).tgt,0)
def Tb.take (t:Tb):Int×Int×Tb:=match t.q with|[]=>(0,3,t)|x :: r=>(x,0,⟨t.ents,r,t.ph,t.nx,t.fd⟩)
def Tb.begin (t:Tb) (m:Mk):Int×Tb:=if t.ph≠0\/m.list≠[] then (13,t) else (0,(t.at 1 0).settle m)
def En.off (e:En):En:=⟨e.kind,0,e.tag⟩
def Tb.clear (t:Tb) (m:Mk) (i:Nat):Tb×Mk:=
 let e:=eAt t.ents i
 if t.ph=2 then (if t.fd i then (⟨t.ents.set i e.off,t.q ++ [e.tag],t.ph,t.nx,t.fd⟩,m.bI e.tgt) else (t,m))
 else (if m.isW e.tgt then ⟨t.ents.set i e.off,t.q,t.ph,t.nx,t.fd⟩ else t,m)
def Tb.step (t:Tb) (m:Mk):Int×Int×Int×Tb×Mk:=
 if t.ph=0 then (0,0,13,t,m) else
 let s:=t.settle m
 if s.ph=3 then (3,m.step.1,0,s.settle m.step.2.2,m.step.2.2)
 else if s.ents.length<=s.nx then (0,0,3,s.at 0 0,m)
 else let c:=s.clear m s.nx;((s.ph:Int),(s.nx:Int),0,(c.1.at s.ph (s.nx+1)).settle c.2,c.2)
section
variable {t:Tb} {m:Mk} {l:List En} {k:Int} {n i:Nat}
theorem kZ:nxt l k n<=l.length:=aDC _ _
theorem nM (h:nxt l k n<l.length):n<=nxt l k n/\(eAt l (nxt l k n)).kind=k:=by
 have:=(dQ (fun i=>decide (n<=i) && decide ((eAt l i).kind=k)) l.length).2 h;simp only [Bool.and_eq_true,decide_eq_true_eq] at this;exact this
theorem lV (y:n<=i) (z:i<nxt l k n):(eAt l i).kind≠k:=fun e=>by
 have:=(dQ (fun i=>decide (n<=i) && decide ((eAt l i).kind=k)) l.length).1 i z;simp [y,e] at this
theorem jY {e:En} (y:i<l.length) (j:Nat):eAt (l.set i e) j=if j=i then e else eAt l j:=by
 unfold eAt;rw [List.getElem?_set]
 by_cases h:i=j
 ·subst h;rw [if_pos rfl,if_pos y,if_pos rfl];rfl
 rw [if_neg h,if_neg (Ne.symm h)]
end
def Tb.zeros (t:Tb):Nat:=cnt (fun i=>decide ((eAt t.ents i).tgt=0)) t.ents.length
structure Tb.Base (t:Tb) (m:Mk):Prop where
 le:t.ents.length<=20
 kd:∀ i,i<t.ents.length->1<=(eAt t.ents i).kind/\(eAt t.ents i).kind<=3
 us:∀ i,i<t.ents.length->(eAt t.ents i).tgt≠0->(m.M.ob (eAt t.ents i).tgt).isSome=true
 ql:t.q.length<=t.zeros
structure Tb.Good (t:Tb) (m:Mk):Prop where
 b:t.Base m
 p4:t.ph<=4
 nl:t.nx<=t.ents.length
 z3:t.ph=3->t.nx=0
 fd:t.ph=2->∀ i,t.nx<=i->i<t.ents.length->t.fd i=true->(eAt t.ents i).tgt≠0
structure Tb.Stl (s:Tb) (m:Mk):Prop where
 p1:1<=s.ph
 a:s.ph=1\/s.ph=2->s.nx<s.ents.length/\(eAt s.ents s.nx).kind=(s.ph:Int)
 c:s.ph=3->m.list≠[]
 d:s.ph=4->s.nx<s.ents.length->(eAt s.ents s.nx).kind=3
section
variable {t s:Tb} {m m':Mk} {l:List En} {n i:Nat} {k:Int}
theorem qZ (h:n<l.length) (y:(eAt l n).kind=k):nxt l k n=n:=
 kV h (by simp [y]) (fun j z=>by simp;omega)
theorem aEy (h:l.length<=n):nxt l k n=l.length:=fP (fun j y=>by simp;omega)
theorem aMi (z:(eAt l n).kind≠k):nxt l k n=nxt l k (n+1):=by
 unfold nxt;refine rY fun j d=>?_
 by_cases e:j=n
 ·rw [e];simp [z]
 by_cases y:n<=j
 ·have:n+1<=j:=by omega
  simp [y,this]
 have:¬ n+1<=j:=by omega
 simp [y,this]
theorem xZ:nxt l k (nxt l k n)=nxt l k n:=by
 by_cases h:nxt l k n<l.length
 ·exact qZ h (nM h).2
 have y:=kZ (l:=l) (k:=k) (n:=n);rw [aEy (by omega)];omega
theorem Tb.Base.at (h:t.Base m) (a n:Nat):(t.at a n).Base m:=⟨h.le,h.kd,h.us,h.ql⟩
theorem Tb.Base.find (h:t.Base m):(t.find m).Base m:=⟨h.le,h.kd,h.us,h.ql⟩
theorem Tb.aLq:t.zeros<=t.ents.length:=qN _ _
theorem Tb.Base.q20 (h:t.Base m):t.q.length<=20:=by have:=h.ql;have:=h.le;have:=Tb.aLq (t:=t);omega
theorem Tb.Base.tg (h:t.Base m) (z:m.M.Ok) {i:Nat} (y:i<t.ents.length):0<=(eAt t.ents i).tgt/\(eAt t.ents i).tgt<=192:=by
 by_cases e:(eAt t.ents i).tgt=0
 ·rw [e];omega
 have:=z.inR (h.us i y e);omega
theorem Tb.Base.marker (h:t.Base m) (y:∀ k,(m.M.ob k).isSome=true->(m'.M.ob k).isSome=true):t.Base m':=⟨h.le,h.kd,fun i hi e=>y _ (h.us i hi e),h.ql⟩
theorem Tb.Good.marker (h:t.Good m) (y:∀ k,(m.M.ob k).isSome=true->(m'.M.ob k).isSome=true):t.Good m':=⟨h.b.marker y,h.p4,h.nl,h.z3,h.fd⟩
theorem Tb.aDq (h:t.Base m) (n:Nat):(t.aAf n).Good m:=⟨h.at _ _,Nat.le_refl 4,kZ,fun e=>by simp [Tb.aAf,Tb.at] at e,fun e=>by simp [Tb.aAf,Tb.at] at e⟩
theorem Tb.aFr (n:Nat):(t.aAf n).Stl m:=⟨by show 1<=4;omega,fun e=>by simp [Tb.aAf,Tb.at] at e,fun e=>by simp [Tb.aAf,Tb.at] at e,fun _ h=>(nM h).2⟩
theorem Tb.aDr (h:t.Base m):(t.pU m).Good m:=by
 unfold Tb.pU;split
 ·exact Tb.aDq h 0
 exact ⟨h.at _ _,by show 3<=4;omega,Nat.zero_le _,fun _=>rfl,fun e=>by simp [Tb.at] at e⟩
theorem Tb.aFs:(t.pU m).Stl m:=by
 unfold Tb.pU;split
 ·exact Tb.aFr 0
 rename_i h;exact ⟨by show 1<=3;omega,fun e=>by simp [Tb.at] at e,fun _=>h,fun e=>by simp [Tb.at] at e⟩
theorem Tb.aDs (h:t.Base m) (z:∀ i,n<=i->i<t.ents.length->t.fd i=true->(eAt t.ents i).tgt≠0):(t.set2 m n).Good m:=by
 unfold Tb.set2;split
 ·rename_i y;exact ⟨h.at _ _,by show 2<=4;omega,kZ,fun e=>by simp [Tb.at] at e,fun _ i hi hl hd=>z i (Nat.le_trans (nM y).1 hi) hl hd⟩
 exact Tb.aDr h
theorem Tb.aFt:(t.set2 m n).Stl m:=by
 unfold Tb.set2;split
 ·rename_i y;exact ⟨by show 1<=2;omega,fun _=>⟨y,(nM y).2⟩,fun e=>by simp [Tb.at] at e,fun e=>by simp [Tb.at] at e⟩
 exact Tb.aFs
theorem aNG (y:m.M.Ok) {x:Int} (h:m.isW x=true):x≠0/\(m.M.ob x).isSome=true:=by
 unfold Mk.isW at h;simp only [Bool.and_eq_true,decide_eq_true_eq] at h;have:=y.inR h.1;exact ⟨by omega,h.1⟩
theorem Tb.aKk (z:m.M.Ok) (h:t.Base m):(t.set1 m n).Good m:=by
 unfold Tb.set1;split
 ·exact ⟨h.at _ _,by show 1<=4;omega,kZ,fun e=>by simp [Tb.at] at e,fun e=>by simp [Tb.at] at e⟩
 refine Tb.aDs h.find fun i _ d hd=>?_;have y:(decide ((eAt t.ents i).kind=2) && m.isW (eAt t.ents i).tgt)=true:=hd;rw [Bool.and_eq_true] at y;exact (aNG z y.2).1
theorem Tb.aLG:(t.set1 m n).Stl m:=by
 unfold Tb.set1;split
 ·rename_i y;exact ⟨Nat.le_refl 1,fun _=>⟨y,(nM y).2⟩,fun e=>by simp [Tb.at] at e,fun e=>by simp [Tb.at] at e⟩
 exact Tb.aFt
theorem Tb.Good.settle (y:m.M.Ok) (h:t.Good m):(t.settle m).Good m:=by
 unfold Tb.settle;split
 ·exact Tb.aKk y h.b
 split
 ·rename_i e;exact Tb.aDs h.b (h.fd e)
 split
 ·exact Tb.aDr h.b
 split
 ·exact Tb.aDq h.b _
 exact h
theorem Tb.cO (y:1<=t.ph) (z:t.ph<=4):(t.settle m).Stl m:=by
 unfold Tb.settle;split
 ·exact Tb.aLG
 split
 ·exact Tb.aFt
 split
 ·exact Tb.aFs
 split
 ·exact Tb.aFr _
 omega
theorem Tb.aJd (n:Nat):(t.aAf n).ents=t.ents/\(t.aAf n).q=t.q:=⟨rfl,rfl⟩
theorem Tb.aCv:(t.pU m).ents=t.ents/\(t.pU m).q=t.q:=by unfold Tb.pU;split<;>exact ⟨rfl,rfl⟩
theorem Tb.xK:(t.set2 m n).ents=t.ents/\(t.set2 m n).q=t.q:=by
 unfold Tb.set2;split
 ·exact ⟨rfl,rfl⟩
 exact Tb.aCv
theorem Tb.aJe:(t.set1 m n).ents=t.ents/\(t.set1 m n).q=t.q:=by
 unfold Tb.set1;split
 ·exact ⟨rfl,rfl⟩
 exact ⟨Tb.xK.1,Tb.xK.2⟩
theorem Tb.gU:(t.settle m).ents=t.ents/\(t.settle m).q=t.q:=by
 unfold Tb.settle;split
 ·exact Tb.aJe
 split
 ·exact Tb.xK
 split
 ·exact Tb.aCv
 split
 ·exact Tb.aJd _
 exact ⟨rfl,rfl⟩
theorem aIx (d:i<t.ents.length) {q:List Int} {ph nx:Nat} {z:Nat->Bool}:(⟨t.ents.set i (eAt t.ents i).off,q,ph,nx,z⟩:Tb).zeros=t.zeros+if (eAt t.ents i).tgt=0 then 0 else 1:=by
 have h1:(⟨t.ents.set i (eAt t.ents i).off,q,ph,nx,z⟩:Tb).zeros=cnt (up (fun j=>decide ((eAt t.ents j).tgt=0)) i true) t.ents.length:=by
  unfold Tb.zeros;show cnt _ (t.ents.set i _).length=_;rw [List.length_set];refine fG fun j hj=>?_;show decide ((eAt (t.ents.set i _) j).tgt=0)=_;rw [jY d]
  by_cases e:j=i
  ·rw [if_pos e,e,bM];rfl
  rw [if_neg e,aU _ _ e]
 rw [h1]
 by_cases e:(eAt t.ents i).tgt=0
 ·rw [if_pos e];refine fG fun j hj=>?_
  by_cases y:j=i
  ·rw [y,bM,e];rfl
  rw [aU _ _ y]
 rw [if_neg e];exact aBU d (by simp [e])
theorem Tb.Base.off (h:t.Base m) (d:i<t.ents.length) {q:List Int} {ph nx:Nat} {fd:Nat->Bool} (hq:q.length<=t.q.length+if (eAt t.ents i).tgt=0 then 0 else 1):(⟨t.ents.set i (eAt t.ents i).off,q,ph,nx,fd⟩:Tb).Base m:=by
 refine ⟨by show (t.ents.set i _).length<=20;rw [List.length_set];exact h.le,fun j hj=>?_,fun j hj y=>?_,?_⟩
 ·have z:j<t.ents.length:=by have:j<(t.ents.set i (eAt t.ents i).off).length:=hj;rw [List.length_set] at this;exact this
  show 1<=(eAt (t.ents.set i _) j).kind/\(eAt (t.ents.set i _) j).kind<=3;rw [jY d];split
  ·exact h.kd i d
  exact h.kd j z
 ·have z:j<t.ents.length:=by have:j<(t.ents.set i (eAt t.ents i).off).length:=hj;rw [List.length_set] at this;exact this
  replace y:(eAt (t.ents.set i (eAt t.ents i).off) j).tgt≠0:=y;show (m.M.ob (eAt (t.ents.set i _) j).tgt).isSome=true;rw [jY d] at y ⊢;split
  ·rename_i e;rw [if_pos e] at y;exact absurd rfl y
  rename_i e;rw [if_neg e] at y;exact h.us j z y
 rw [aIx d];have:=h.ql;show q.length<=_;omega
theorem Mk.aGy {x:Int}:(m.bI x).left=m.left:=by
 unfold Mk.left;rw [Mk.lS];refine fG fun j d=>?_;rcases Mk.qQ (m:=m) (x:=x) ((j:Int)+1) with h|⟨_,_,y,z⟩
 ·rw [h]
 rw [y,z];rfl
theorem Tb.clear_facts (h:s.Good m) (hs:s.Stl m) (y:s.nx<s.ents.length) (d:s.ph≠3) (hk:m.M.Ok):(s.clear m s.nx).1.Base m/\(s.clear m s.nx).1.ents.length=s.ents.length/\(s.clear m s.nx).1.fd=s.fd/\(s.clear m s.nx).1.ph=s.ph/\(∀ j,j≠s.nx->eAt (s.clear m s.nx).1.ents j=eAt s.ents j)/\((s.clear m s.nx).2=m\/∃ x,(s.clear m s.nx).2=m.bI x):=by
 unfold Tb.clear;simp only;split
 ·split
  ·rename_i e hd;refine ⟨h.b.off y (by rw [List.length_append,if_neg (h.fd e _ (Nat.le_refl _) y hd)];exact Nat.le_refl _),by show (s.ents.set _ _).length=_;rw [List.length_set],rfl,rfl,fun j z=>?_,.inr ⟨_,rfl⟩⟩;show eAt (s.ents.set _ _) j=_;rw [jY y,if_neg z]
  exact ⟨h.b,rfl,rfl,rfl,fun _ _=>rfl,.inl rfl⟩
 split
 ·refine ⟨h.b.off y (by omega),by show (s.ents.set _ _).length=_;rw [List.length_set],rfl,rfl,fun j z=>?_,.inl rfl⟩;show eAt (s.ents.set _ _) j=_;rw [jY y,if_neg z]
 exact ⟨h.b,rfl,rfl,rfl,fun _ _=>rfl,.inl rfl⟩
theorem aGg (y:m.Ok) (z:m'=m\/∃ x,m'=m.bI x):m'.Ok/\m'.M=m.M/\m'.left=m.left:=by
 rcases z with rfl|⟨x,rfl⟩
 ·exact ⟨y,rfl,rfl⟩
 exact ⟨y.bI x,Mk.lS,Mk.aGy⟩
theorem Tb.Good.clear (h:s.Good m) (hs:s.Stl m) (hi:s.nx<s.ents.length) (h3:s.ph≠3) (hm:m.Ok):((s.clear m s.nx).1.at s.ph (s.nx+1)).Good (s.clear m s.nx).2:=by
 obtain ⟨h1,h2,h4,h5,h6,h7⟩:=Tb.clear_facts h hs hi h3 hm.hf.ok;have h8:=aGg hm h7;clear h7;generalize s.clear m s.nx=c at*;obtain ⟨z,c2⟩:=c;replace h2:z.ents.length=s.ents.length:=h2;refine ⟨(Tb.Base.at h1 _ _).marker (fun k hk=>by rw [h8.2.1];exact hk),h.p4,by show s.nx+1<=z.ents.length;omega,fun e=>absurd e h3,fun e i d y hd=>?_⟩;replace hd:z.fd i=true:=hd;replace y:i<z.ents.length:=y;replace d:s.nx+1<=i:=d;replace h4:z.fd=s.fd:=h4;rw [h4] at hd;rw [h2] at y;show (eAt z.ents i).tgt≠0;rw [h6 i (by omega)];exact h.fd e i (by omega) y hd
def Tb.mu (t:Tb) (m:Mk):Nat:=(4 - t.ph)*300+m.left+(t.ents.length - t.nx)
theorem aJI (t:Tb) (m:Mk) (a n:Nat):(t.at a n).mu m=(4 - a)*300+m.left+(t.ents.length - n):=rfl
theorem aJF (y:n<=t.ents.length):(t.aAf n).mu m<=m.left+(t.ents.length - n):=by
 show (t.at 4 _).mu m<=_;rw [aJI]
 by_cases h:nxt t.ents 3 n<t.ents.length
 ·have:=(nM h).1;omega
 have:=kZ (l:=t.ents) (k:=3) (n:=n);omega
theorem aJG (y:t.ents.length<=20):(t.pU m).mu m<=300+m.left+t.ents.length:=by
 unfold Tb.pU;split
 ·have:=aJF (t:=t) (m:=m) (Nat.zero_le _);omega
 rw [aJI];omega
theorem aJH (y:t.ents.length<=20) (z:n<=t.ents.length):(t.set2 m n).mu m<=600+m.left+(t.ents.length - n):=by
 unfold Tb.set2;split
 ·rename_i h;rw [aJI];have:=(nM h).1;omega
 have:=aJG (t:=t) (m:=m) y;omega
theorem aOF (y:t.ents.length<=20) (d:n<=t.ents.length):(t.set1 m n).mu m<=900+m.left+(t.ents.length - n):=by
 unfold Tb.set1;split
 ·rename_i h;rw [aJI];have:=(nM h).1;omega
 have:=aJH (t:=t.find m) (m:=m) (n:=0) y (Nat.zero_le _);have z:(t.find m).ents.length=t.ents.length:=rfl;omega
theorem yH (h:t.Good m) (h1:1<=t.ph):(t.settle m).mu m<=t.mu m:=by
 have h4:=h.p4;have y:=h.b.le;have z:=h.nl;unfold Tb.settle;split
 ·rename_i e;have:=aOF (m:=m) y z;unfold Tb.mu at*;rw [e];omega
 split
 ·rename_i e;have:=aJH (m:=m) y z;unfold Tb.mu at*;rw [e];omega
 split
 ·rename_i e;have:=aJG (m:=m) y;have d:=h.z3 e;unfold Tb.mu at*;rw [e,d];omega
 split
 ·rename_i e;have:=aJF (m:=m) z;unfold Tb.mu at*;rw [e];omega
 omega
theorem Tb.Good.step (h:t.Good m) (z:m.Ok):(t.step m).2.2.2.1.Good (t.step m).2.2.2.2/\(t.step m).2.2.2.2.Ok/\(t.step m).2.2.2.2.M=m.M/\(t.ph≠0->((t.step m).2.2.1=0/\1<=(t.step m).2.2.2.1.ph/\(t.step m).2.2.2.1.mu (t.step m).2.2.2.2<t.mu m)\/((t.step m).2.2.1=3/\(t.step m).2.2.2.1.ph=0)):=by
 by_cases h0:t.ph=0
 ·unfold Tb.step;rw [if_pos h0];exact ⟨h,z,rfl,fun e=>absurd h0 e⟩
 have h1:1<=t.ph:=by omega
 have hk:=z.hf.ok;have hs:=h.settle hk;have y:=Tb.cO (m:=m) h1 h.p4;have h2:=yH h h1;unfold Tb.step;rw [if_neg h0];simp only;generalize t.settle m=s at*;split
 ·rename_i e;have hM:=Mk.mY (m:=m);have d:s.Good m.step.2.2:=hs.marker (fun k hk=>by rw [hM];exact hk);refine ⟨d.settle (by rw [hM];exact hk),z.step,hM,fun _=>.inl ⟨rfl,(Tb.cO (by omega) hs.p4).p1,?_⟩⟩;have h5:=yH d (by omega);have h6:=Mk.left_step z (y.c e);have h7:s.mu m.step.2.2+1=s.mu m:=by unfold Tb.mu;omega
  show (s.settle m.step.2.2).mu m.step.2.2<t.mu m;omega
 split
 ·refine ⟨⟨hs.b.at _ _,Nat.zero_le _,Nat.zero_le _,fun _=>rfl,fun e=>by simp [Tb.at] at e⟩,z,rfl,fun _=>.inr ⟨rfl,rfl⟩⟩
 rename_i e3 el;have hi:s.nx<s.ents.length:=by omega
 obtain ⟨c1,c2,c3,c4,c5,c6⟩:=Tb.clear_facts hs y hi e3 hk;obtain ⟨d1,d2,d3⟩:=aGg z c6;have d:=hs.clear y hi e3 z;have hp:1<=((s.clear m s.nx).1.at s.ph (s.nx+1)).ph:=y.p1;refine ⟨d.settle (by rw [d2];exact hk),d1,d2,fun _=>.inl ⟨rfl,(Tb.cO hp d.p4).p1,?_⟩⟩;have h5:=yH d hp;have h6:((s.clear m s.nx).1.at s.ph (s.nx+1)).mu (s.clear m s.nx).2=(4 - s.ph)*300+m.left+(s.ents.length - (s.nx+1)):=by
  rw [aJI,d3,c2]
 have h7:s.mu m=(4 - s.ph)*300+m.left+(s.ents.length - s.nx):=rfl;show (((s.clear m s.nx).1.at s.ph (s.nx+1)).settle (s.clear m s.nx).2).mu (s.clear m s.nx).2<t.mu m;omega
theorem Tb.Good.new:Tb.new.Good m:=⟨⟨by show 0<=20;omega,fun i y=>absurd y (Nat.not_lt_zero _),fun i y=>absurd y (Nat.not_lt_zero _),Nat.le_refl 0⟩,Nat.zero_le _,Nat.le_refl _,fun e=>rfl,fun e=>by simp [Tb.new] at e⟩
theorem Tb.Good.take (h:t.Good m):t.take.2.2.Good m:=by
 unfold Tb.take
 cases e:t.q with
 | nil=>exact h
 | cons x r=>exact ⟨⟨h.b.le,h.b.kd,h.b.us,by have:=h.b.ql;rw [e] at this;simp at this;show r.length<=t.zeros;omega⟩,h.p4,h.nl,h.z3,h.fd⟩
theorem Tb.Good.begin (h:t.Good m) (y:m.M.Ok):(t.begin m).2.Good m:=by
 unfold Tb.begin;split
 ·exact h
 exact Tb.Good.settle y ⟨h.b.at _ _,by show 1<=4;omega,Nat.zero_le _,fun e=>by simp [Tb.at] at e,fun e=>by simp [Tb.at] at e⟩
theorem aBQ (l:List En) (e:En) {i:Nat} (y:i<l.length+1):eAt (l ++ [e]) i=if i=l.length then e else eAt l i:=by
 unfold eAt
 by_cases h:i=l.length
 ·rw [if_pos h,h];simp
 rw [if_neg h,List.getElem?_append_left (by omega)]
theorem Tb.Good.add (h:t.Good m) (kd x g:Int):(t.add m kd x g).2.2.Good m:=by
 unfold Tb.add;split
 ·exact h
 split
 ·exact h
 split
 ·exact h
 split
 ·exact h
 rename_i h1 h2 h3 h4;have d:(t.ents ++ [⟨kd,x,g⟩]:List En).length=t.ents.length+1:=by simp
 have h0:t.ph=0:=Classical.not_not.1 h2;refine ⟨⟨by show (t.ents ++ _).length<=20;rw [d];omega,fun i hi=>?_,fun i hi z=>?_,?_⟩,h.p4,by show t.nx<=(t.ents ++ _).length;rw [d];have:=h.nl;omega,h.z3,fun e=>?_⟩
 ·have y:i<t.ents.length+1:=by rw [<-d];exact hi
  show 1<=(eAt (t.ents ++ _) i).kind/\(eAt (t.ents ++ _) i).kind<=3;rw [aBQ _ _ y];split
  ·show 1<=kd/\kd<=3;omega
  exact h.b.kd i (by omega)
 ·have y:i<t.ents.length+1:=by rw [<-d];exact hi
  replace z:(eAt (t.ents ++ [⟨kd,x,g⟩]) i).tgt≠0:=z;show (m.M.ob (eAt (t.ents ++ _) i).tgt).isSome=true;rw [aBQ _ _ y] at z ⊢;split
  ·show (m.M.ob x).isSome=true
   cases e:(m.M.ob x).isSome
   ·exact absurd e h3
   rfl
  rename_i e;rw [if_neg e] at z;exact h.b.us i (by omega) z
 ·have hq:=h.b.ql;show t.q.length<=cnt (fun i=>decide ((eAt (t.ents ++ [⟨kd,x,g⟩]) i).tgt=0)) (t.ents ++ [(⟨kd,x,g⟩:En)]).length;rw [d];show _<=cnt _ t.ents.length+_;have hc:cnt (fun i=>decide ((eAt (t.ents ++ [⟨kd,x,g⟩]) i).tgt=0)) t.ents.length=t.zeros:=fG fun j hj=>by
   rw [aBQ t.ents ⟨kd,x,g⟩ (show j<t.ents.length+1 by omega),if_neg (by omega)]
  omega
 exact absurd (show t.ph=2 from e) (by omega)
end
end Go.Proofs.YthflghdaejbdkaaGreat
