/- Lemmas of this claim. -/
import Derived.Deep.DeepFit
import Derived.Test.YthflghdaejbdkaaGreatXbIterLay
import Derived.Test.YthflghdaejbdkaaGreatXbRBlockE
import Derived.Lib.SlKeysI
import Derived.Test.YthflghdaejbdkaaGreatXbOFam
import Derived.OwnWalk
import Derived.Test.YthflghdaejbdkaaGreatXbObjD
import Derived.Laws.StructEq
namespace Go.Proofs.YthflghdaejbdkaaGreat
open _root_.Go.Proofs.Tryz (prog)
open Go.RowKit Go.Maps Go.Sort Go.Shelf
set_option maxHeartbeats 3200000
set_option maxRecDepth 100000
set_option linter.unusedVariables false
theorem aNJ (m:Nat):AnyZI.SortsIn prog Tryz.sortedA_ren Fence.wide m:=
 ⟨fun z e cap ss W hH y d=>callsIn_wide.2 (AnyM.slices_Sort_int Tryz.sortA z e cap ss W hH y d),
  fun p cap W=>callsIn_wide.2 (AnyM.slices_Sort_int_none Tryz.sortA p cap W)⟩
theorem aCF {P:Program} {k:TypeId} {R:Value->Option (DataW Unit×List MemPlace)} {w:World} {b n:Nat} {D:DataW Unit} (d:w.ownsMap P k R b n D) (K:Keyed P k) (hk:P.underlying k=some (.int .i64)) {l ss:List Int} (hl:l.Pairwise (·<·)) (hm:∀ x,x∈l->wfI x) (hh:∀ x,wfI x->(Maps.has D (.int .i64 x)=true↔x∈l)) (hp:ss.Perm (intKeys D)) :
  ss.mergeSort (fun x y=>decide (x<=y))=l:=by
 obtain ⟨es,hD,h6,_⟩:=d.entries K;obtain ⟨h3,h0,h4⟩:=d.keysOf;obtain rfl:es=h3:=by rw [hD] at h0;simpa using h0
 subst hD;have h5:l.Nodup:=hl.imp (fun h e=>by omega);have z:∀ p∈es,∃ x,p.1=.int .i64 x/\wfI x:=fun p hp=>by
  obtain ⟨v,hv⟩:=h4 p hp;obtain ⟨x,_,hx,hw⟩:=Maps.keyOf_i64 hk hv;exact ⟨x,hx,hw⟩
 have h1:l.Perm (intKeys (.map es)):=perm_intKeys h6 (fun p hp=>by obtain ⟨x,hx,_⟩:=z p hp;exact ⟨x,hx⟩) h5 (fun x=>by
  constructor
  ·intro hx;exact (hh x (hm x hx)).2 hx
  intro hx;refine (hh x ?_).1 hx;simp only [Maps.has,List.any_eq_true] at hx;obtain ⟨p,hp,hs⟩:=hx;obtain ⟨y,hy,hw⟩:=z p hp;rw [hy] at hs;have e:y=x:=by simpa [Lit.sameKey] using hs
  rw [<-e];exact hw)
 have h2:=mergeSort_of_perm_i (hp.trans h1.symm);show ss.mergeSort leI=l;rw [h2];exact List.mergeSort_of_pairwise (hl.imp (fun h=>by simp only [leI,decide_eq_true_eq];omega))
theorem aBn {w w':World} {B:Nat} (h:Below B w w') (y:B=w.heap.size):Only [] w w':=by
 subst y;exact ⟨h.os,h.tape,h.output,h.size,fun k z _=>h.block k z⟩
theorem aAy (w:World) (y:Option Nat):Calls prog 135 #[.map y] w fun e w'=>e=.returned (.func (.func 204) #[] #[.pointer (some ⟨w.heap.size,0,none⟩)])/\w'=w.alloc (.cells #[.map y] 173):=
 callsIn_wide.1 (AnyZI.keys_in Tryz.keysA Fence.wide 5 trivial rfl y w)
theorem wE {w:World} {z n:Nat} {f:Int->Option Nat} (h:dS w z n f) (hn:n<=1000000) {l:List Int} (hl:l.Pairwise (·<·)) (hm:∀ x,x∈l->wfI x) (hf:∀ x,wfI x->((f x).isSome=true↔x∈l)) :
  Calls prog 133 #[.func (.func 204) #[] #[.pointer (some ⟨w.heap.size,0,none⟩)]] (w.alloc (.cells #[.map (some z)] 173)) fun e w'=>
   ∃ v,e=.returned v/\aN w' w.heap.size v l/\Only [] w w':=by
 obtain ⟨D,hD,h2⟩:=h;have h3:=hD.lt;have h4:=hD.size_le;have h1:SeqGives Fence.wide 2 prog 204 #[.pointer (some ⟨w.heap.size,0,none⟩)] encZ (fun ss=>ss.Perm (intKeys D)) (Maps.size D) (w.alloc (.cells #[.map (some z)] 173)):=
  AnyZI.keys_gives (ρ:=Tryz.keysA_ren) { Tryz.keysA with } Fence.wide _ trivial rfl (by omega) w.heap.size z n D _ (by simp) (by simp) (hD.alloc _)
 have cS:=AnyZI.sorted_in Tryz.sortedA Fence.wide 5 trivial trivial trivial trivial rfl (by omega) (aNJ _) (enters_of Tryz.func202 (by kernel_rfl) rfl) 204 #[.pointer (some ⟨w.heap.size,0,none⟩)] trivial (enters_of Tryz.func204 (by kernel_rfl) rfl) _ _ (by simp only [maxLen];omega) (by omega) _ h1;change CallsIn _ _ prog 133 _ _ _ at cS;refine (callsIn_wide.1 cS).mono ?_;rintro e w' ⟨v,ss,rfl,hS,y,_,hb⟩;have d:=aCF hD iE Tryz.underlying3 hl hm (fun x hx=>by rw [(h2 x hx).1];exact hf x hx) hS;have h0:ss.length=l.length:=by rw [<-d,List.length_mergeSort]
 rw [d,h0] at y;have ho:=aBn hb rfl;refine ⟨v,rfl,?_,((Only.refl [] w).alloc _).trans ho (by simp)⟩;have hI:aN w' (w.alloc (.cells #[.map (some z)] 173)).heap.size v l:=y;exact hI.base (by simp)
theorem Hp.zI (M:Hp) (k:Nat):(M.aX k).Pairwise (·<·):=by
 induction k with
 | zero=>exact List.Pairwise.nil
 | succ k d=>
  unfold Hp.aX;refine List.pairwise_append.2 ⟨d,by split<;>simp,fun a y b hb=>?_⟩
  have e:b=(k:Int)+1:=by
   split at hb
   ·simpa using hb
   simp at hb
  have:∀ j,∀ a,a∈M.aX j->a<(j:Int)+1:=by
   intro j
   induction j with
   | zero=>intro a y;simp [Hp.aX] at y
   | succ j z=>
    intro a y;unfold Hp.aX at y;rw [List.mem_append] at y;rcases y with y|y
    ·have:=z a y;omega
    split at y
    ·simp at y;omega
    simp at y
  have:=this k a y;omega
theorem Hp.aDl {M:Hp} {k:Nat} {x:Int}:x∈M.aX k↔∃ j:Nat,j<k/\x=(j:Int)+1/\(M.ob x).isSome=true:=by
 induction k with
 | zero=>simp [Hp.aX]
 | succ k ih=>
  unfold Hp.aX;rw [List.mem_append,ih];constructor
  ·rintro (⟨j,d,y,z⟩|h)
   ·exact ⟨j,by omega,y,z⟩
   split at h
   ·rename_i hs;simp at h;subst h;exact ⟨k,by omega,rfl,hs⟩
   simp at h
  rintro ⟨j,d,y,z⟩
  by_cases e:j=k
  ·right;subst e;subst y;rw [if_pos z];simp
  exact .inl ⟨j,by omega,y,z⟩
theorem Hp.Ok.yY {M:Hp} (y:M.Ok) {x:Int}:x∈M.handles↔(M.ob x).isSome=true:=by
 unfold Hp.handles;rw [Hp.aDl];constructor
 ·rintro ⟨_,_,_,h⟩;exact h
 intro h;obtain ⟨o,z⟩:=Option.isSome_iff_exists.1 h;have:=y.hr x o z;exact ⟨x.toNat - 1,by omega,by omega,h⟩
theorem qJ {L:Nat->Option Lb} {hb:Nat} {M:Hp} {X:HX} (w:World) (h:dO w L hb M X) (d:M.Ok):Calls prog 62 #[.pointer (some ⟨hb,0,none⟩)] w (aOb w M.handles):=by
 refine aF fun R hR=>?_;have h1:=iK w h;have c1:=h.cells.2.1;have y:=aAy w (some X.mb);have z:=wE h.mp (by omega) (l:=M.handles) (Hp.zI M 192) (fun x hx=>by
  obtain ⟨o,ho⟩:=Option.isSome_iff_exists.1 (d.yY.1 hx);have:=d.hr x o ho;exact dI (by omega)) (fun x _=>by
  rw [d.yY]
  cases M.ob x<;>simp)
 clear h d;go_in;go_wp2_with fail;go_fit h1;rintro e _ ⟨rfl,rfl⟩;go_wp2_with fail;go_fit y;rintro e _ ⟨rfl,rfl⟩;go_wp2_with fail;go_fit z;rintro e w5 ⟨v,rfl,hi,ho⟩;have HI:=aA hi;have HO:=aA ho;clear h1 y z hi ho;go_wp2;exact hR.o _ _ ⟨v,rfl,HI.o,HO.o⟩
end Go.Proofs.YthflghdaejbdkaaGreat
namespace Go.Proofs.YthflghdaejbdkaaGreat
open _root_.Go.Proofs.Tryz (prog)
open Go.RowKit Go.Maps
set_option maxHeartbeats 12800000
set_option maxRecDepth 100000
set_option linter.unusedVariables false
theorem Hp.Ok.wfH {M:Hp} (y:M.Ok) {k:Int} (h:(M.ob k).isSome=true):wfI k:=by
 obtain ⟨o,z⟩:=Option.isSome_iff_exists.1 h;have:=y.hr k o z;exact dI (by omega)
theorem aBh {l:List Int} {i:Nat} (h:i<l.length):gI l i=l[i]:=by unfold gI;rw [List.getElem?_eq_getElem h];rfl
theorem aQP {l:List Bool} {i j:Nat} {v:Bool} (y:i<l.length):gB (l.set i v) j=if j=i then v else gB l j:=by
 unfold gB;rw [List.getElem?_set]
 by_cases e:i=j
 ·subst e;rw [if_pos rfl,if_pos y,if_pos rfl];rfl
 rw [if_neg e,if_neg (Ne.symm e)]
section
variable {M:Hp} {i k:Nat} {o o2:Th} {bits:List Bool}
end
theorem aMx (n:Nat) (hn:n<=1000):∃ C:Array Value,C.toList=(List.replicate n false).map Value.bool/\∀ y:World,(Instr.makeSlice 50 (.int .i64 (n:Int)) (.int .i64 (n:Int))).run prog y=.ok (.slice (some ⟨y.heap.size,0,none⟩) n n) (y.alloc (.cells C 4)):=by
 obtain ⟨i0,d,e,z,h0⟩:=info_parts wZ;refine ⟨madeCells (Value.bool false).cells (n*1),by rw [aMz,List.map_replicate],fun y=>?_⟩;rw [run_makeSlice (P:=prog) (w:=y) 50 4 i0 _ Tryz.underlying50 d e .i64 .i64 _ _ (by omega) (by omega) (by rw [z];omega) (by rw [h0];omega) (by omega),z];rfl
end Go.Proofs.YthflghdaejbdkaaGreat
namespace Go.Proofs.YthflghdaejbdkaaGreat
open _root_.Go.Proofs.Tryz (prog)
set_option linter.unusedVariables false
set_option maxRecDepth 100000
inductive Hp.Rch (M:Hp) (roots:List Int):Int->Prop
 | root {x:Int}:x∈roots->x≠0->Hp.Rch M roots x
 | step {x y:Int} {o:Th}:Hp.Rch M roots x->M.ob x=some o->y∈o.fJ->Hp.Rch M roots y
def Hp.bZ (M:Hp) (y:List Int):Prop:=∃ x,x∈y/\x≠0/\M.ob x=none
open Classical in
noncomputable def Hp.mW (M:Hp) (y:List Int):Nat->List Int
 | 0=>[]
 | k+1=>Hp.mW M y k ++ if M.Rch y ((k:Int)+1) then [(k:Int)+1] else []
noncomputable def Hp.jZ (M:Hp) (y:List Int):List Int:=M.mW y 192
open Classical in
noncomputable def Hp.reach (M:Hp) (y:List Int):List Int×Int:=if M.bZ y then ([],3) else (M.jZ y,0)
section
variable {M:Hp} {roots:List Int}
theorem Hp.Ok.aJw (hk:M.Ok) {x y:Int} {o:Th} (ho:M.ob x=some o) (hy:y∈o.fJ):(M.ob y).isSome=true/\1<=y/\y<=192:=by
 obtain ⟨s,hs,h1,h2,h3⟩:=Th.nU hy;have z:=hk.sl x o ho s hs;rw [h1,h2] at z;have e:(M.ob y).isSome=true:=by
  unfold Hp.fits at z;simp only [if_true,Bool.or_eq_true,decide_eq_true_eq] at z;rcases z with z|z
  ·exact absurd z h3
  exact z
 obtain ⟨o',d⟩:=Option.isSome_iff_exists.1 e;exact ⟨e,hk.hr y o' d⟩
theorem Hp.Rch.some (d:M.Ok) (hb:¬ M.bZ roots) {x:Int} (h:M.Rch roots x):(M.ob x).isSome=true/\1<=x/\x<=192:=by
 cases h with
 | root z y=>
  cases e:M.ob x with
  | none=>exact absurd ⟨x,z,y,e⟩ hb
  | some o=>exact ⟨rfl,d.hr x o e⟩
 | step z y h3=>exact d.aJw y h3
theorem Hp.aAU {k:Nat} {x:Int}:x∈M.mW roots k↔∃ j:Nat,j<k/\x=(j:Int)+1/\M.Rch roots x:=by
 induction k with
 | zero=>simp [Hp.mW]
 | succ k ih=>
  unfold Hp.mW;rw [List.mem_append,ih];constructor
  ·rintro (⟨j,d,y,z⟩|h)
   ·exact ⟨j,by omega,y,z⟩
   split at h
   ·rename_i hs;simp at h;subst h;exact ⟨k,by omega,rfl,hs⟩
   simp at h
  rintro ⟨j,d,y,z⟩
  by_cases e:j=k
  ·right;subst e;subst y;rw [if_pos z];simp
  exact .inl ⟨j,by omega,y,z⟩
theorem Hp.Ok.aDj (y:M.Ok) (hb:¬ M.bZ roots) {x:Int}:x∈M.jZ roots↔M.Rch roots x:=by
 unfold Hp.jZ;rw [Hp.aAU];constructor
 ·rintro ⟨_,_,_,h⟩;exact h
 intro h;obtain ⟨_,z,d⟩:=h.some y hb;exact ⟨x.toNat - 1,by omega,by omega,h⟩
theorem Hp.aBI (M:Hp) (y:List Int) (k:Nat):(M.mW y k).Pairwise (·<·):=by
 induction k with
 | zero=>exact List.Pairwise.nil
 | succ k d=>
  unfold Hp.mW;refine List.pairwise_append.2 ⟨d,by split<;>simp,fun a z b hb=>?_⟩
  have e:b=(k:Int)+1:=by
   split at hb
   ·simpa using hb
   simp at hb
  obtain ⟨j,h1,h2,_⟩:=Hp.aAU.1 z;omega
theorem Hp.aGS (M:Hp) (y:List Int) (k:Nat):(M.mW y k).length<=k:=by
 induction k with
 | zero=>simp [Hp.mW]
 | succ k z=>
  unfold Hp.mW;rw [List.length_append];split<;>simp<;>omega
theorem Hp.aBJ (M:Hp) (y:List Int):(M.jZ y).Pairwise (·<·):=by unfold Hp.jZ;exact Hp.aBI M y 192
theorem Hp.aGT (M:Hp) (y:List Int):(M.jZ y).length<=192:=by unfold Hp.jZ;exact Hp.aGS M y 192
end
def jS (f:Int->Int) (k v:Int):Int->Int:=fun j=>if j=k then v else f j
theorem cO (f:Int->Int) (k v:Int):jS f k v k=v:=if_pos rfl
theorem bM (f:Int->Int) {k j:Int} (v:Int) (h:j≠k):jS f k v j=f j:=if_neg h
structure Mk where
 M:Hp
 col:Int->Int
 list:List Int
def Mk.wh (m:Mk) (x:Int):Bool:=decide (x≠0) && (m.M.ob x).isSome && decide (m.col x=0)
def Mk.bG (m:Mk) (x:Int):Mk:=if m.wh x then ⟨m.M,jS m.col x 1,m.list ++ [x]⟩ else m
def Mk.aY (m:Mk) (l:List Int):Mk:=l.foldl Mk.bG m
def Mk.put (m:Mk) (M:Hp):Mk:=⟨M,m.col,m.list⟩
def bU (l:List Int) (x:Int):List Int:=l.filter (fun y=>decide (y≠x))
def Mk.black (m:Mk) (x:Int):Mk:=⟨m.M,jS m.col x 2,bU m.list x⟩
def Mk.forget (m:Mk) (x:Int):Mk:=⟨m.M,jS m.col x 0,bU m.list x⟩
def Mk.start (M:Hp):Mk:=⟨M,fun _=>0,[]⟩
def Mk.next (m:Mk):Int×Int:=match m.list with|[]=>(0,3)|h :: _=>(h,0)
def Mk.dR (m:Mk) (h:Int):Mk:=(⟨m.M,jS m.col h 2,m.list.drop 1⟩:Mk).aY (m.M.refs h).1
def Mk.step (m:Mk):Int×Int×Mk:=match m.list with|[]=>(0,3,m)|h :: _=>(h,0,m.dR h)
def Mk.store (m:Mk) (h s v:Int):Int×Mk:=
 let r:=m.M.set h s v
 (r.1,if r.1=0/\(m.M.isRef h s).1=true then ((m.put r.2).bG (m.M.get h s).1).bG v else m.put r.2)
def Mk.made (m:Mk) (r:Int×Int×Hp):Int×Int×Mk:=(r.1,r.2.1,if r.2.1=0 then (m.put r.2.2).black r.1 else m.put r.2.2)
def Mk.aH (m:Mk) (c:Int) (l:List Bool):Int×Int×Mk:=m.made (m.M.aH c l)
def Mk.aG (m:Mk) (k c n:Int):Int×Int×Mk:=m.made (m.M.aG k c n)
def Mk.jX (m:Mk) (x:Int):Int:=if x≠0/\(m.M.ob x).isSome=false then 3 else 0
def Mk.color (m:Mk) (x:Int):Int×Int:=if (m.M.ob x).isSome then (m.col x,0) else (0,3)
def Mk.white (m:Mk):List Int:=m.M.handles.filter (fun x=>decide (m.col x=0))
structure Mk.Ok (m:Mk):Prop where
 hf:m.M.OkF
 rg:∀ k,m.col k=0\/m.col k=1\/m.col k=2
 us:∀ k,m.col k≠0->(m.M.ob k).isSome=true
 nd:m.list.Nodup
 gr:∀ k,k∈m.list↔m.col k=1
section
variable {m:Mk} {x:Int}
theorem Hp.Ok.inR {M:Hp} (y:M.Ok) (h:(M.ob x).isSome=true):1<=x/\x<=192:=by
 obtain ⟨o,z⟩:=Option.isSome_iff_exists.1 h;exact y.hr x o z
theorem Mk.jV:m.wh x=true↔x≠0/\(m.M.ob x).isSome=true/\m.col x=0:=by
 unfold Mk.wh;simp [and_assoc]
theorem Mk.Ok.aCy (h:m.Ok) (hx:x∈m.list):(m.M.ob x).isSome=true:=h.us x (by rw [(h.gr x).1 hx];decide)
theorem Mk.Ok.inR (h:m.Ok) (hx:x∈m.list):1<=x/\x<=192:=h.hf.ok.inR (h.aCy hx)
theorem aFP {l:List Int} (hn:l.Nodup) (d:∀ x∈l,1<=x/\x<=192):l.length<=192:=by
 have h:(l.map Int.toNat).Nodup:=by
  rw [List.nodup_iff_pairwise_ne,List.pairwise_map];rw [List.nodup_iff_pairwise_ne] at hn;refine hn.imp_of_mem ?_;intro a b z hb h0 e;have:=d a z;have:=d b hb;exact h0 (by omega)
 have h2:(l.map Int.toNat) ⊆ List.range 193:=by
  intro y hy;obtain ⟨a,z,rfl⟩:=List.mem_map.1 hy;have:=d a z;rw [List.mem_range];omega
 have h3:0∉l.map Int.toNat:=by
  intro hy;obtain ⟨a,z,e⟩:=List.mem_map.1 hy;have:=d a z;omega
 have h4:(0 :: l.map Int.toNat).Nodup:=List.nodup_cons.2 ⟨h3,h⟩;have h5:(0 :: l.map Int.toNat) ⊆ List.range 193:=List.cons_subset.2 ⟨by simp,h2⟩;have h6:=(lH h4 (l2:=List.range 193) (fun x hx=>h5 hx)).1;simp at h6;omega
theorem Mk.Ok.len (h:m.Ok):m.list.length<=192:=aFP h.nd (fun x hx=>h.inR hx)
theorem Mk.Ok.bG (h:m.Ok) (x:Int):(m.bG x).Ok:=by
 unfold Mk.bG;split
 ·rename_i hw;obtain ⟨h1,d,h3⟩:=Mk.jV.1 hw;refine ⟨h.hf,fun k=>?_,fun k hk=>?_,?_,fun k=>?_⟩
  ·show jS m.col x 1 k=0\/jS m.col x 1 k=1\/jS m.col x 1 k=2
   by_cases e:k=x
   ·rw [e,cO];exact .inr (.inl rfl)
   rw [bM _ _ e];exact h.rg k
  ·have y:jS m.col x 1 k≠0:=hk
   by_cases e:k=x
   ·rw [e];exact d
   rw [bM _ _ e] at y;exact h.us k y
  ·show (m.list ++ [x]).Nodup;rw [List.nodup_append];refine ⟨h.nd,by simp,fun a z b hb e=>?_⟩;simp at hb;rw [e,hb] at z;have:=(h.gr x).1 z;omega
  show k∈m.list ++ [x]↔jS m.col x 1 k=1;rw [List.mem_append]
  by_cases e:k=x
  ·rw [e,cO];simp
  rw [bM _ _ e,h.gr k];simp [e]
 exact h
theorem Mk.lZ:(m.bG x).M=m.M:=by unfold Mk.bG;split<;>rfl
theorem Mk.jP (l:List Int):∀ m:Mk,(m.aY l).M=m.M:=by
 induction l with
 | nil=>intro m;rfl
 | cons a l y=>intro m;exact (y (m.bG a)).trans Mk.lZ
theorem Mk.Ok.aY (l:List Int):∀ m:Mk,m.Ok->(m.aY l).Ok:=by
 induction l with
 | nil=>intro m h;exact h
 | cons a l y=>intro m h;exact y _ (h.bG a)
theorem Mk.rD (k:Int):(m.bG x).col k=m.col k\/(k=x/\m.wh x=true/\m.col k=0/\(m.bG x).col k=1):=by
 unfold Mk.bG;split
 ·rename_i hw;show jS m.col x 1 k=m.col k\/_
  by_cases e:k=x
  ·exact .inr ⟨e,hw,by rw [e];exact (Mk.jV.1 hw).2.2,by rw [e];exact cO _ _ _⟩
  exact .inl (bM _ _ e)
 exact .inl rfl
theorem Mk.iR (l:List Int) (k:Int):∀ m:Mk,(m.aY l).col k=m.col k\/(k∈l/\k≠0/\(m.M.ob k).isSome=true/\m.col k=0/\(m.aY l).col k=1):=by
 induction l with
 | nil=>intro m;exact .inl rfl
 | cons a l ih=>
  intro m;have y:=ih (m.bG a);show ((m.bG a).aY l).col k=_\/(_/\_/\_/\_/\((m.bG a).aY l).col k=1);rcases Mk.rD (m:=m) (x:=a) k with z|⟨z,e,h4,h5⟩
  ·rw [z] at y;rw [Mk.lZ] at y;rcases y with y|⟨y,h6,h7,d,h9⟩
   ·exact .inl y
   exact .inr ⟨List.mem_cons_of_mem _ y,h6,h7,d,h9⟩
  rcases y with y|⟨_,_,_,d,_⟩
  ·obtain ⟨w1,w2,w3⟩:=Mk.jV.1 e;exact .inr ⟨by rw [z];exact List.mem_cons_self,by rw [z];exact w1,by rw [z];exact w2,h4,by rw [y,h5]⟩
  omega
theorem Mk.xQ (l:List Int) (k:Int) (hk:k∈l) (h0:k≠0):∀ m:Mk,(m.M.ob k).isSome=true->(m.aY l).col k≠0:=by
 induction l with
 | nil=>cases hk
 | cons a l ih=>
  intro m hs
  by_cases e:k∈l
  ·exact ih e (m.bG a) (by rw [Mk.lZ];exact hs)
  have y:k=a:=by rcases List.mem_cons.1 hk with h|h;exact h;exact absurd h e
  have h1:(m.bG a).col k≠0:=by
   by_cases d:m.col k=0
   ·have hw:m.wh a=true:=Mk.jV.2 ⟨by rw [<-y];exact h0,by rw [<-y];exact hs,by rw [<-y];exact d⟩;unfold Mk.bG;rw [if_pos hw];show jS m.col a 1 k≠0;rw [y,cO];decide
   rcases Mk.rD (m:=m) (x:=a) k with h2|⟨_,_,h4,_⟩
   ·rw [h2];exact d
   exact absurd h4 d
  rcases Mk.iR l k (m.bG a) with z|⟨z,_⟩
  ·show ((m.bG a).aY l).col k≠0;rw [z];exact h1
  exact absurd z e
theorem aES {l:List Int} {k:Int}:k∈bU l x↔k∈l/\k≠x:=by unfold bU;simp
theorem aCw {l:List Int} (h:x∉l):bU l x=l:=by
 unfold bU;rw [List.filter_eq_self];intro a y;simp;intro e;exact h (by rw [<-e];exact y)
theorem aBx {l:List Int} (h:l.Nodup):(bU l x).Nodup:=h.filter _
theorem Mk.Ok.black (h:m.Ok) (hx:(m.M.ob x).isSome=true):(m.black x).Ok:=by
 refine ⟨h.hf,fun k=>?_,fun k hk=>?_,aBx h.nd,fun k=>?_⟩
 ·show jS m.col x 2 k=0\/jS m.col x 2 k=1\/jS m.col x 2 k=2
  by_cases e:k=x
  ·rw [e,cO];exact .inr (.inr rfl)
  rw [bM _ _ e];exact h.rg k
 ·have y:jS m.col x 2 k≠0:=hk
  by_cases e:k=x
  ·rw [e];exact hx
  rw [bM _ _ e] at y;exact h.us k y
 show k∈bU m.list x↔jS m.col x 2 k=1;rw [aES]
 by_cases e:k=x
 ·rw [e,cO];simp
 rw [bM _ _ e,h.gr k];simp [e]
theorem Mk.Ok.start {M:Hp} (h:M.OkF):(Mk.start M).Ok:=⟨h,fun _=>.inl rfl,fun k hk=>absurd rfl hk,by simp [Mk.start],fun k=>by simp [Mk.start]⟩
theorem Mk.Ok.put (h:m.Ok) {M:Hp} (y:M.OkF) (d:∀ k,(m.M.ob k).isSome=true->(M.ob k).isSome=true):(m.put M).Ok:=
 ⟨y,h.rg,fun k z=>d k (h.us k z),h.nd,h.gr⟩
theorem vW {h:Int} {t:List Int} (e:m.list=h :: t) (y:m.list.Nodup):(⟨m.M,jS m.col h 2,m.list.drop 1⟩:Mk)=m.black h:=by
 unfold Mk.black;rw [e] at y ⊢;have:bU (h :: t) h=t:=by
  have z:=(List.nodup_cons.1 y).1;show List.filter _ (h :: t)=t;rw [List.filter_cons_of_neg (by simp)];exact aCw z
 rw [this];rfl
theorem Mk.Ok.dR (h:m.Ok) {x:Int} {t:List Int} (e:m.list=x :: t):(m.dR x).Ok:=by
 unfold Mk.dR;rw [vW e h.nd];exact Mk.Ok.aY _ _ (h.black (h.aCy (by rw [e];simp)))
theorem Mk.Ok.step (h:m.Ok):m.step.2.2.Ok:=by
 unfold Mk.step
 cases e:m.list with
 | nil=>exact h
 | cons x t=>exact h.dR e
theorem Mk.nM:m.step.2.2.M=m.M:=by
 unfold Mk.step
 cases e:m.list with
 | nil=>rfl
 | cons x t=>exact Mk.jP _ _
def Mk.left (m:Mk):Nat:=cnt (fun k=>(m.M.ob ((k:Int)+1)).isSome && decide (m.col ((k:Int)+1)≠2)) 192
theorem Mk.left_le:m.left<=192:=qY _ _
theorem Mk.left_step (h:m.Ok) (e:m.list≠[]):m.step.2.2.left+1=m.left:=by
 unfold Mk.step
 cases z:m.list with
 | nil=>exact absurd z e
 | cons x t=>
  obtain ⟨h1,h2⟩:=h.inR (x:=x) (by rw [z];simp);have hc:m.col x=1:=(h.gr x).1 (by rw [z];simp);have hu:=h.aCy (x:=x) (by rw [z];simp);obtain ⟨k0,h0,hx⟩:∃ k:Nat,k<192/\x=(k:Int)+1:=⟨(x - 1).toNat,by omega,by omega⟩;show (m.dR x).left+1=m.left;have hl:(m.dR x).left=cnt (up (fun k=>(m.M.ob ((k:Int)+1)).isSome && decide (m.col ((k:Int)+1)≠2)) k0 false) 192:=gG fun j hj=>by
   have hM:(m.dR x).M=m.M:=Mk.jP _ _;rw [hM]
   by_cases ej:j=k0
   ·rw [ej,bP,<-hx];have y:(m.dR x).col x=2:=by
     rcases Mk.iR (m.M.refs x).1 x ⟨m.M,jS m.col x 2,m.list.drop 1⟩ with h3|⟨_,_,_,d,_⟩
     ·exact h3.trans (cO _ _ _)
     rw [show (⟨m.M,jS m.col x 2,m.list.drop 1⟩:Mk).col x=2 from cO _ _ _] at d;omega
    rw [y];simp
   rw [aV _ _ ej];have h6:(j:Int)+1≠x:=by omega
   have y:(m.dR x).col ((j:Int)+1)=2↔m.col ((j:Int)+1)=2:=by
    have e0:(⟨m.M,jS m.col x 2,m.list.drop 1⟩:Mk).col ((j:Int)+1)=m.col ((j:Int)+1):=bM _ _ h6;rcases Mk.iR (m.M.refs x).1 ((j:Int)+1) ⟨m.M,jS m.col x 2,m.list.drop 1⟩ with h3|⟨_,_,_,d,h5⟩
    ·rw [show (m.dR x).col ((j:Int)+1)=_ from h3,e0]
    rw [e0] at d;rw [show (m.dR x).col ((j:Int)+1)=1 from h5,d];omega
   congr 1;rw [decide_eq_decide];exact not_congr y
  rw [hl];exact aAh h0 (by rw [<-hx,hu,hc];rfl)
theorem Hp.oP (M:Hp) (h s v k:Int):((M.set h s v).2.ob k).isSome=(M.ob k).isSome:=by
 unfold Hp.set
 cases e:M.ob h with
 | none=>rfl
 | some o=>
  simp only;split
  ·rfl
  split
  ·show (eU M.ob h _ k).isSome=_
   by_cases y:k=h
   ·rw [y,aZ,e];rfl
   rw [bD _ _ y]
  rfl
theorem Hp.add_facts (M:Hp) (o:Th):(∀ k,(M.ob k).isSome=true->(M.add o).2.2.ob k=M.ob k)/\((M.add o).2.1=0->M.ob (M.add o).1=none/\∃ bs,(M.add o).2.2.ob (M.add o).1=some { o with blocks:=bs }/\∀ k,k≠(M.add o).1->(M.add o).2.2.ob k=M.ob k)/\((M.add o).2.1≠0->(M.add o).2.2=M/\(M.add o).1=0):=by
 unfold Hp.add;split
 ·rename_i hl;have z:=M.pF hl
  cases e:dH M.P (aT o.slots.length) (aT o.slots.length).length with
  | none=>exact ⟨fun _ _=>rfl,fun h=>absurd (show (14:Int)=0 from h) (by decide),fun _=>⟨rfl,rfl⟩⟩
  | some r=>
   obtain ⟨bs,Q⟩:=r;simp only;refine ⟨fun k y=>?_,fun _=>⟨z,bs,aZ _ _ _,fun k y=>bD _ _ y⟩,fun h=>absurd rfl h⟩;exact bD _ _ (fun d=>by rw [d,z] at y;cases y)
 exact ⟨fun _ _=>rfl,fun h=>absurd (show (14:Int)=0 from h) (by decide),fun _=>⟨rfl,rfl⟩⟩
structure wI (M:Hp) (r:Int×Int×Hp):Prop where
 ok:M.OkF->r.2.2.OkF
 old:∀ k,(M.ob k).isSome=true->r.2.2.ob k=M.ob k
 no:r.2.1≠0->r.2.2=M/\r.1=0
 yes:r.2.1=0->M.ob r.1=none/\(∀ k,k≠r.1->r.2.2.ob k=M.ob k)/\∃ o,r.2.2.ob r.1=some o/\∀ s,gI o.slots s=0
theorem wI.add (M:Hp) {o:Th} (ho:o.ok1) (y:∀ s,gI o.slots s=0):wI M (M.add o):=by
 obtain ⟨z,d,h3⟩:=M.add_facts o;exact ⟨fun h=>h.add ho y,z,h3,fun e=>by
  obtain ⟨a,bs,b,c⟩:=d e;exact ⟨a,c,_,b,y⟩⟩
theorem wI.none (M:Hp) {e:Int} (y:e≠0):wI M (0,e,M):=⟨id,fun _ _=>rfl,fun _=>⟨rfl,rfl⟩,fun h=>absurd h y⟩
theorem Hp.iJ (M:Hp) (c:Int) (l:List Bool):wI M (M.aH c l):=by
 unfold Hp.aH;split
 ·exact wI.none M (by decide)
 rename_i y;exact wI.add M (qF y).1 (qF y).2
theorem Hp.jJ (M:Hp) (k c n:Int):wI M (M.aG k c n):=by
 unfold Hp.aG;split
 ·exact wI.none M (by decide)
 rename_i y;split
 ·rename_i hd;exact wI.add M (qN y hd).1 (qN y hd).2
 exact wI.none M (by decide)
theorem Mk.Ok.made (h:m.Ok) {r:Int×Int×Hp} (y:wI m.M r):(m.made r).2.2.Ok:=by
 have z:(m.put r.2.2).Ok:=h.put (y.ok h.hf) (fun k d=>by rw [y.old k d];exact d);unfold Mk.made;split
 ·rename_i e;obtain ⟨_,_,o,ho,_⟩:=y.yes e;exact z.black (by show (r.2.2.ob r.1).isSome=true;rw [ho];rfl)
 exact z
theorem Mk.Ok.aH (h:m.Ok) (c:Int) (l:List Bool):(m.aH c l).2.2.Ok:=h.made (m.M.iJ c l)
theorem Mk.Ok.aG (h:m.Ok) (k c n:Int):(m.aG k c n).2.2.Ok:=h.made (m.M.jJ k c n)
theorem Mk.Ok.store (h:m.Ok) (a s v:Int):(m.store a s v).2.Ok:=by
 have y:(m.put (m.M.set a s v).2).Ok:=h.put (h.hf.set a s v) (fun k z=>by rw [Hp.oP];exact z);unfold Mk.store;simp only;split
 ·exact (y.bG _).bG _
 exact y
theorem aCQ {M:Hp} {o:Th} (y:M.ob x=some o):(M.refs x).1=o.fJ:=by unfold Hp.refs;rw [y]
theorem aFK {M:Hp} (d:M.Ok) {y:Int} (z:y∈(M.refs x).1):y≠0/\(M.ob y).isSome=true:=by
 unfold Hp.refs at z
 cases e:M.ob x with
 | none=>rw [e] at z;cases z
 | some o=>
  rw [e] at z;have:=d.aJw e z;exact ⟨by omega,this.1⟩
end
set_option maxHeartbeats 1600000
section
variable {m:Mk} {roots:List Int} {x k:Int}
structure aAp (roots:List Int) (m:Mk):Prop where
 sound:∀ k,m.col k≠0->m.M.Rch roots k
 root:∀ r,r∈roots->r≠0->m.col r≠0
 blk:∀ k o,m.col k=2->m.M.ob k=some o->∀ y,y∈o.fJ->m.col y≠0
theorem aOJ (h:¬ m.M.bZ roots) (z:x∈roots) (y:x≠0):(m.M.ob x).isSome=true:=by
 cases e:m.M.ob x with
 | none=>exact absurd ⟨x,z,y,e⟩ h
 | some o=>rfl
theorem aAp.start {M:Hp} (hM:M.OkF) (hb:¬ M.bZ roots):aAp roots ((Mk.start M).aY roots):=by
 have y:((Mk.start M).aY roots).M=M:=Mk.jP _ _;refine ⟨fun k e=>?_,fun r hr h0=>Mk.xQ roots r hr h0 _ (aOJ (m:=Mk.start M) hb hr h0),fun k o hc=>?_⟩
 ·rw [y];rcases Mk.iR roots k (Mk.start M) with h|⟨z,d,_⟩
  ·exact absurd h e
  exact .root z d
 rcases Mk.iR roots k (Mk.start M) with h|⟨_,_,_,_,h⟩
 ·rw [h] at hc;exact absurd hc (by show ¬ (0:Int)=2;decide)
 rw [h] at hc;cases hc
theorem Mk.wO (h:m.Ok) {x:Int} {t:List Int} (e:m.list=x :: t) (k:Int):(m.dR x).col k=2/\k=x\/k≠x/\(m.dR x).col k=m.col k\/k≠x/\m.col k=0/\(m.dR x).col k=1/\k∈(m.M.refs x).1:=by
 by_cases y:k=x
 ·left;rw [y];refine ⟨?_,rfl⟩;rcases Mk.iR (m.M.refs x).1 x ⟨m.M,jS m.col x 2,m.list.drop 1⟩ with d|⟨_,_,_,z,_⟩
  ·exact d.trans (cO _ _ _)
  rw [show (⟨m.M,jS m.col x 2,m.list.drop 1⟩:Mk).col x=2 from cO _ _ _] at z;omega
 have e0:(⟨m.M,jS m.col x 2,m.list.drop 1⟩:Mk).col k=m.col k:=bM _ _ y;rcases Mk.iR (m.M.refs x).1 k ⟨m.M,jS m.col x 2,m.list.drop 1⟩ with d|⟨h1,_,_,z,h5⟩
 ·exact .inr (.inl ⟨y,d.trans e0⟩)
 rw [e0] at z;exact .inr (.inr ⟨y,z,h5,h1⟩)
theorem Mk.aLU (x:Int):(m.dR x).M=m.M:=Mk.jP _ _
theorem Mk.aIT (h:m.Ok) {x y:Int} {t:List Int} (e:m.list=x :: t) (z:y∈(m.M.refs x).1):(m.dR x).col y≠0:=by
 obtain ⟨d,h1⟩:=aFK h.hf.ok z;exact Mk.xQ _ y z d _ h1
theorem aAp.step (h:m.Ok) (hi:aAp roots m):aAp roots m.step.2.2:=by
 unfold Mk.step
 cases e:m.list with
 | nil=>exact hi
 | cons x t=>
  show aAp roots (m.dR x);have hM:=Mk.aLU (m:=m) x;have hx:m.col x=1:=(h.gr x).1 (by rw [e];simp);have d:∀ k,m.col k≠0->(m.dR x).col k≠0:=fun k hk=>by
   rcases Mk.wO h e k with ⟨z,_⟩|⟨_,z⟩|⟨_,z,_⟩
   ·rw [z];decide
   ·rw [z];exact hk
   exact absurd z hk
  refine ⟨fun k hk=>?_,fun r hr h0=>d r (hi.root r hr h0),fun k o hc ho y hy=>?_⟩
  ·rw [hM];rcases Mk.wO h e k with ⟨_,z⟩|⟨_,z⟩|⟨_,_,_,z⟩
   ·rw [z];exact hi.sound x (by rw [hx];decide)
   ·rw [z] at hk;exact hi.sound k hk
   obtain ⟨o,ho⟩:=Option.isSome_iff_exists.1 (h.aCy (x:=x) (by rw [e];simp));rw [aCQ ho] at z;exact .step (hi.sound x (by rw [hx];decide)) ho z
  rw [hM] at ho;rcases Mk.wO h e k with ⟨_,z⟩|⟨_,z⟩|⟨_,_,z,_⟩
  ·rw [z] at ho;exact Mk.aIT h e (by rw [aCQ ho];exact hy)
  ·rw [z] at hc;exact d y (hi.blk k o hc ho y hy)
  rw [z] at hc;cases hc
theorem aAp.done (h:m.Ok) (hi:aAp roots m) (he:m.list=[]) (k:Int):(m.col k=2↔m.M.Rch roots k)/\(m.col k≠2->m.col k=0):=by
 have z:∀ k,m.col k≠0->m.col k=2:=fun k hk=>by
  rcases h.rg k with y|y|y
  ·exact absurd y hk
  ·have:=(h.gr k).2 y;rw [he] at this;cases this
  exact y
 refine ⟨⟨fun e=>hi.sound k (by rw [e];decide),fun hr=>?_⟩,fun e=>?_⟩
 ·induction hr with
  | root y d=>exact z _ (hi.root _ y d)
  | step y d h3 ih=>exact z _ (hi.blk _ _ ih d _ h3)
 cases Decidable.em (m.col k=0) with
 | inl y=>exact y
 | inr y=>exact absurd (z k y) e
def Mk.used (m:Mk):Nat:=cnt (fun k=>(m.M.ob ((k:Int)+1)).isSome) 192
theorem aDw (M:Hp) (k:Nat):(M.aX k).length=cnt (fun j=>(M.ob ((j:Int)+1)).isSome) k:=by
 induction k with
 | zero=>rfl
 | succ k y=>
  unfold Hp.aX cnt;rw [List.length_append,y];split<;>rfl
theorem Mk.aLF (m:Mk):m.used=m.M.handles.length:=(aDw m.M 192).symm
end
section
variable {m:Mk} {K:List Int} {x k:Int}
theorem aJh (M:Hp) (a s v:Int):((M.set a s v).1≠0/\(M.set a s v).2=M)\/∃ o,∃ j:Nat,s=(j:Int)/\M.ob a=some o/\j<o.slots.length/\M.fits (gB o.refs j) v=true/\(M.set a s v).1=0/\(M.set a s v).2.ob=eU M.ob a (some (o.put j v))/\(M.isRef a s).1=gB o.refs j/\(M.get a s).1=gI o.slots j:=by
 unfold Hp.set Hp.isRef Hp.get
 cases e:M.ob a with
 | none=>exact .inl ⟨show (3:Int)≠0 by decide,rfl⟩
 | some o=>
  simp only
  by_cases h:s<0\/(o.slots.length:Int)<=s
  ·rw [if_pos h];exact .inl ⟨show (1:Int)≠0 by decide,rfl⟩
  rw [if_neg h,if_neg h,if_neg h]
  by_cases y:M.fits (gB o.refs s.toNat) v=true
  ·rw [if_pos y];exact .inr ⟨o,s.toNat,by omega,rfl,by omega,y,rfl,rfl,rfl,rfl⟩
  rw [if_neg y];exact .inl ⟨show (1:Int)≠0 by decide,rfl⟩
end
end Go.Proofs.YthflghdaejbdkaaGreat
namespace Go.Proofs.YthflghdaejbdkaaGreat
open _root_.Go.Proofs.Tryz (prog)
set_option linter.unusedVariables false
set_option maxRecDepth 100000
structure En where
 kind:Int
 tgt:Int
 tag:Int
structure Tb where
 ents:List En
 q:List Int
 ph:Nat
 nx:Nat
 fd:Nat->Bool
def eAt (l:List En) (i:Nat):En:=l[i]?.getD ⟨0,0,0⟩
def Tb.new:Tb:=⟨[],[],0,0,fun _=>false⟩
def Mk.isW (m:Mk) (x:Int):Bool:=(m.M.ob x).isSome && decide (m.col x=0)
def nxt (l:List En) (k:Int) (n:Nat):Nat:=fst (fun i=>decide (n<=i) && decide ((eAt l i).kind=k)) l.length
def Tb.at (t:Tb) (y nx:Nat):Tb:=⟨t.ents,t.q,y,nx,t.fd⟩
def Tb.aAr (t:Tb) (n:Nat):Tb:=t.at 4 (nxt t.ents 3 n)
def Tb.qV (t:Tb) (m:Mk):Tb:=if m.list=[] then t.aAr 0 else t.at 3 0
def Tb.set2 (t:Tb) (m:Mk) (n:Nat):Tb:=if nxt t.ents 2 n<t.ents.length then t.at 2 (nxt t.ents 2 n) else t.qV m
def Tb.find (t:Tb) (m:Mk):Tb:=⟨t.ents,t.q,t.ph,t.nx,fun i=>decide ((eAt t.ents i).kind=2) && m.isW (eAt t.ents i).tgt⟩
def Tb.set1 (t:Tb) (m:Mk) (n:Nat):Tb:=if nxt t.ents 1 n<t.ents.length then t.at 1 (nxt t.ents 1 n) else (t.find m).set2 m 0
def Tb.settle (t:Tb) (m:Mk):Tb:=if t.ph=1 then t.set1 m t.nx else if t.ph=2 then t.set2 m t.nx else if t.ph=3 then t.qV m else if t.ph=4 then t.aAr t.nx else t
def Tb.add (t:Tb) (m:Mk) (k x g:Int):Int×Int×Tb:=
 if k<1\/3<k then (0,1,t) else if t.ph≠0 then (0,13,t) else if (m.M.ob x).isSome=false then (0,3,t) else if 20<=t.ents.length then (0,2,t)
 else (t.ents.length,0,⟨t.ents ++ [⟨k,x,g⟩],t.q,t.ph,t.nx,t.fd⟩)
def Tb.target (t:Tb) (i:Int):Int×Int:=if i<0\/(t.ents.length:Int)<=i then (0,1) else ((eAt t.ents i.toNat).tgt,0)
def Tb.take (t:Tb):Int×Int×Tb:=match t.q with|[]=>(0,3,t)|x :: r=>(x,0,⟨t.ents,r,t.ph,t.nx,t.fd⟩)
def Tb.begin (t:Tb) (m:Mk):Int×Tb:=if t.ph≠0\/m.list≠[] then (13,t) else (0,(t.at 1 0).settle m)
def En.off (e:En):En:=⟨e.kind,0,e.tag⟩
def Tb.clear (t:Tb) (m:Mk) (i:Nat):Tb×Mk:=
 let e:=eAt t.ents i
 if t.ph=2 then (if t.fd i then (⟨t.ents.set i e.off,t.q ++ [e.tag],t.ph,t.nx,t.fd⟩,m.bG e.tgt) else (t,m))
 else (if m.isW e.tgt then ⟨t.ents.set i e.off,t.q,t.ph,t.nx,t.fd⟩ else t,m)
def Tb.step (t:Tb) (m:Mk):Int×Int×Int×Tb×Mk:=
 if t.ph=0 then (0,0,13,t,m) else
 let s:=t.settle m
 if s.ph=3 then (3,m.step.1,0,s.settle m.step.2.2,m.step.2.2)
 else if s.ents.length<=s.nx then (0,0,3,s.at 0 0,m)
 else let c:=s.clear m s.nx;((s.ph:Int),(s.nx:Int),0,(c.1.at s.ph (s.nx+1)).settle c.2,c.2)
section
variable {t:Tb} {m:Mk} {l:List En} {k:Int} {n i:Nat}
theorem nV:nxt l k n<=l.length:=aDP _ _
theorem nX (h:nxt l k n<l.length):n<=nxt l k n/\(eAt l (nxt l k n)).kind=k:=by
 have:=(dU (fun i=>decide (n<=i) && decide ((eAt l i).kind=k)) l.length).2 h;simp only [Bool.and_eq_true,decide_eq_true_eq] at this;exact this
theorem wS (y:n<=i) (z:i<nxt l k n):(eAt l i).kind≠k:=fun e=>by
 have:=(dU (fun i=>decide (n<=i) && decide ((eAt l i).kind=k)) l.length).1 i z;simp [y,e] at this
theorem kG {e:En} (y:i<l.length) (j:Nat):eAt (l.set i e) j=if j=i then e else eAt l j:=by
 unfold eAt;rw [List.getElem?_set]
 by_cases h:i=j
 ·subst h;rw [if_pos rfl,if_pos y,if_pos rfl];rfl
 rw [if_neg h,if_neg (Ne.symm h)]
end
def Tb.zeros (t:Tb):Nat:=cnt (fun i=>decide ((eAt t.ents i).tgt=0)) t.ents.length
structure Tb.Base (t:Tb) (m:Mk):Prop where
 le:t.ents.length<=20
 kd:∀ i,i<t.ents.length->1<=(eAt t.ents i).kind/\(eAt t.ents i).kind<=3
 us:∀ i,i<t.ents.length->(eAt t.ents i).tgt≠0->(m.M.ob (eAt t.ents i).tgt).isSome=true
 ql:t.q.length<=t.zeros
structure Tb.Good (t:Tb) (m:Mk):Prop where
 b:t.Base m
 p4:t.ph<=4
 nl:t.nx<=t.ents.length
 z3:t.ph=3->t.nx=0
 fd:t.ph=2->∀ i,t.nx<=i->i<t.ents.length->t.fd i=true->(eAt t.ents i).tgt≠0
structure Tb.Stl (s:Tb) (m:Mk):Prop where
 p1:1<=s.ph
 a:s.ph=1\/s.ph=2->s.nx<s.ents.length/\(eAt s.ents s.nx).kind=(s.ph:Int)
 c:s.ph=3->m.list≠[]
 d:s.ph=4->s.nx<s.ents.length->(eAt s.ents s.nx).kind=3
section
variable {t s:Tb} {m m':Mk} {l:List En} {n i:Nat} {k:Int}
theorem rQ (h:n<l.length) (y:(eAt l n).kind=k):nxt l k n=n:=
 lD h (by simp [y]) (fun j z=>by simp;omega)
theorem aEG (h:l.length<=n):nxt l k n=l.length:=fP (fun j y=>by simp;omega)
theorem aMr (z:(eAt l n).kind≠k):nxt l k n=nxt l k (n+1):=by
 unfold nxt;refine sS fun j d=>?_
 by_cases e:j=n
 ·rw [e];simp [z]
 by_cases y:n<=j
 ·have:n+1<=j:=by omega
  simp [y,this]
 have:¬ n+1<=j:=by omega
 simp [y,this]
theorem yN:nxt l k (nxt l k n)=nxt l k n:=by
 by_cases h:nxt l k n<l.length
 ·exact rQ h (nX h).2
 have y:=nV (l:=l) (k:=k) (n:=n);rw [aEG (by omega)];omega
theorem Tb.Base.at (h:t.Base m) (a n:Nat):(t.at a n).Base m:=⟨h.le,h.kd,h.us,h.ql⟩
theorem Tb.Base.find (h:t.Base m):(t.find m).Base m:=⟨h.le,h.kd,h.us,h.ql⟩
theorem Tb.aLC:t.zeros<=t.ents.length:=qY _ _
theorem Tb.Base.q20 (h:t.Base m):t.q.length<=20:=by have:=h.ql;have:=h.le;have:=Tb.aLC (t:=t);omega
theorem Tb.Base.tg (h:t.Base m) (z:m.M.Ok) {i:Nat} (y:i<t.ents.length):0<=(eAt t.ents i).tgt/\(eAt t.ents i).tgt<=192:=by
 by_cases e:(eAt t.ents i).tgt=0
 ·rw [e];omega
 have:=z.inR (h.us i y e);omega
theorem Tb.Base.marker (h:t.Base m) (y:∀ k,(m.M.ob k).isSome=true->(m'.M.ob k).isSome=true):t.Base m':=⟨h.le,h.kd,fun i hi e=>y _ (h.us i hi e),h.ql⟩
theorem Tb.Good.marker (h:t.Good m) (y:∀ k,(m.M.ob k).isSome=true->(m'.M.ob k).isSome=true):t.Good m':=⟨h.b.marker y,h.p4,h.nl,h.z3,h.fd⟩
theorem Tb.aDD (h:t.Base m) (n:Nat):(t.aAr n).Good m:=⟨h.at _ _,Nat.le_refl 4,nV,fun e=>by simp [Tb.aAr,Tb.at] at e,fun e=>by simp [Tb.aAr,Tb.at] at e⟩
theorem Tb.aFE (n:Nat):(t.aAr n).Stl m:=⟨by show 1<=4;omega,fun e=>by simp [Tb.aAr,Tb.at] at e,fun e=>by simp [Tb.aAr,Tb.at] at e,fun _ h=>(nX h).2⟩
theorem Tb.aDE (h:t.Base m):(t.qV m).Good m:=by
 unfold Tb.qV;split
 ·exact Tb.aDD h 0
 exact ⟨h.at _ _,by show 3<=4;omega,Nat.zero_le _,fun _=>rfl,fun e=>by simp [Tb.at] at e⟩
theorem Tb.aFF:(t.qV m).Stl m:=by
 unfold Tb.qV;split
 ·exact Tb.aFE 0
 rename_i h;exact ⟨by show 1<=3;omega,fun e=>by simp [Tb.at] at e,fun _=>h,fun e=>by simp [Tb.at] at e⟩
theorem Tb.aDF (h:t.Base m) (z:∀ i,n<=i->i<t.ents.length->t.fd i=true->(eAt t.ents i).tgt≠0):(t.set2 m n).Good m:=by
 unfold Tb.set2;split
 ·rename_i y;exact ⟨h.at _ _,by show 2<=4;omega,nV,fun e=>by simp [Tb.at] at e,fun _ i hi hl hd=>z i (Nat.le_trans (nX y).1 hi) hl hd⟩
 exact Tb.aDE h
theorem Tb.aFG:(t.set2 m n).Stl m:=by
 unfold Tb.set2;split
 ·rename_i y;exact ⟨by show 1<=2;omega,fun _=>⟨y,(nX y).2⟩,fun e=>by simp [Tb.at] at e,fun e=>by simp [Tb.at] at e⟩
 exact Tb.aFF
theorem aNU (y:m.M.Ok) {x:Int} (h:m.isW x=true):x≠0/\(m.M.ob x).isSome=true:=by
 unfold Mk.isW at h;simp only [Bool.and_eq_true,decide_eq_true_eq] at h;have:=y.inR h.1;exact ⟨by omega,h.1⟩
theorem Tb.aKp (z:m.M.Ok) (h:t.Base m):(t.set1 m n).Good m:=by
 unfold Tb.set1;split
 ·exact ⟨h.at _ _,by show 1<=4;omega,nV,fun e=>by simp [Tb.at] at e,fun e=>by simp [Tb.at] at e⟩
 refine Tb.aDF h.find fun i _ d hd=>?_;have y:(decide ((eAt t.ents i).kind=2) && m.isW (eAt t.ents i).tgt)=true:=hd;rw [Bool.and_eq_true] at y;exact (aNU z y.2).1
theorem Tb.aLS:(t.set1 m n).Stl m:=by
 unfold Tb.set1;split
 ·rename_i y;exact ⟨Nat.le_refl 1,fun _=>⟨y,(nX y).2⟩,fun e=>by simp [Tb.at] at e,fun e=>by simp [Tb.at] at e⟩
 exact Tb.aFG
theorem Tb.Good.settle (y:m.M.Ok) (h:t.Good m):(t.settle m).Good m:=by
 unfold Tb.settle;split
 ·exact Tb.aKp y h.b
 split
 ·rename_i e;exact Tb.aDF h.b (h.fd e)
 split
 ·exact Tb.aDE h.b
 split
 ·exact Tb.aDD h.b _
 exact h
theorem Tb.dA (y:1<=t.ph) (z:t.ph<=4):(t.settle m).Stl m:=by
 unfold Tb.settle;split
 ·exact Tb.aLS
 split
 ·exact Tb.aFG
 split
 ·exact Tb.aFF
 split
 ·exact Tb.aFE _
 omega
theorem Tb.aJn (n:Nat):(t.aAr n).ents=t.ents/\(t.aAr n).q=t.q:=⟨rfl,rfl⟩
theorem Tb.aCJ:(t.qV m).ents=t.ents/\(t.qV m).q=t.q:=by unfold Tb.qV;split<;>exact ⟨rfl,rfl⟩
theorem Tb.xX:(t.set2 m n).ents=t.ents/\(t.set2 m n).q=t.q:=by
 unfold Tb.set2;split
 ·exact ⟨rfl,rfl⟩
 exact Tb.aCJ
theorem Tb.aJo:(t.set1 m n).ents=t.ents/\(t.set1 m n).q=t.q:=by
 unfold Tb.set1;split
 ·exact ⟨rfl,rfl⟩
 exact ⟨Tb.xX.1,Tb.xX.2⟩
theorem Tb.gV:(t.settle m).ents=t.ents/\(t.settle m).q=t.q:=by
 unfold Tb.settle;split
 ·exact Tb.aJo
 split
 ·exact Tb.xX
 split
 ·exact Tb.aCJ
 split
 ·exact Tb.aJn _
 exact ⟨rfl,rfl⟩
theorem aIF (d:i<t.ents.length) {q:List Int} {ph nx:Nat} {z:Nat->Bool}:(⟨t.ents.set i (eAt t.ents i).off,q,ph,nx,z⟩:Tb).zeros=t.zeros+if (eAt t.ents i).tgt=0 then 0 else 1:=by
 have h1:(⟨t.ents.set i (eAt t.ents i).off,q,ph,nx,z⟩:Tb).zeros=cnt (up (fun j=>decide ((eAt t.ents j).tgt=0)) i true) t.ents.length:=by
  unfold Tb.zeros;show cnt _ (t.ents.set i _).length=_;rw [List.length_set];refine gG fun j hj=>?_;show decide ((eAt (t.ents.set i _) j).tgt=0)=_;rw [kG d]
  by_cases e:j=i
  ·rw [if_pos e,e,bP];rfl
  rw [if_neg e,aV _ _ e]
 rw [h1]
 by_cases e:(eAt t.ents i).tgt=0
 ·rw [if_pos e];refine gG fun j hj=>?_
  by_cases y:j=i
  ·rw [y,bP,e];rfl
  rw [aV _ _ y]
 rw [if_neg e];exact aAg d (by simp [e])
theorem Tb.Base.off (h:t.Base m) (d:i<t.ents.length) {q:List Int} {ph nx:Nat} {fd:Nat->Bool} (hq:q.length<=t.q.length+if (eAt t.ents i).tgt=0 then 0 else 1):(⟨t.ents.set i (eAt t.ents i).off,q,ph,nx,fd⟩:Tb).Base m:=by
 refine ⟨by show (t.ents.set i _).length<=20;rw [List.length_set];exact h.le,fun j hj=>?_,fun j hj y=>?_,?_⟩
 ·have z:j<t.ents.length:=by have:j<(t.ents.set i (eAt t.ents i).off).length:=hj;rw [List.length_set] at this;exact this
  show 1<=(eAt (t.ents.set i _) j).kind/\(eAt (t.ents.set i _) j).kind<=3;rw [kG d];split
  ·exact h.kd i d
  exact h.kd j z
 ·have z:j<t.ents.length:=by have:j<(t.ents.set i (eAt t.ents i).off).length:=hj;rw [List.length_set] at this;exact this
  replace y:(eAt (t.ents.set i (eAt t.ents i).off) j).tgt≠0:=y;show (m.M.ob (eAt (t.ents.set i _) j).tgt).isSome=true;rw [kG d] at y ⊢;split
  ·rename_i e;rw [if_pos e] at y;exact absurd rfl y
  rename_i e;rw [if_neg e] at y;exact h.us j z y
 rw [aIF d];have:=h.ql;show q.length<=_;omega
theorem Mk.aGG {x:Int}:(m.bG x).left=m.left:=by
 unfold Mk.left;rw [Mk.lZ];refine gG fun j d=>?_;rcases Mk.rD (m:=m) (x:=x) ((j:Int)+1) with h|⟨_,_,y,z⟩
 ·rw [h]
 rw [y,z];rfl
theorem Tb.clear_facts (h:s.Good m) (hs:s.Stl m) (y:s.nx<s.ents.length) (d:s.ph≠3) (hk:m.M.Ok):(s.clear m s.nx).1.Base m/\(s.clear m s.nx).1.ents.length=s.ents.length/\(s.clear m s.nx).1.fd=s.fd/\(s.clear m s.nx).1.ph=s.ph/\(∀ j,j≠s.nx->eAt (s.clear m s.nx).1.ents j=eAt s.ents j)/\((s.clear m s.nx).2=m\/∃ x,(s.clear m s.nx).2=m.bG x):=by
 unfold Tb.clear;simp only;split
 ·split
  ·rename_i e hd;refine ⟨h.b.off y (by rw [List.length_append,if_neg (h.fd e _ (Nat.le_refl _) y hd)];exact Nat.le_refl _),by show (s.ents.set _ _).length=_;rw [List.length_set],rfl,rfl,fun j z=>?_,.inr ⟨_,rfl⟩⟩;show eAt (s.ents.set _ _) j=_;rw [kG y,if_neg z]
  exact ⟨h.b,rfl,rfl,rfl,fun _ _=>rfl,.inl rfl⟩
 split
 ·refine ⟨h.b.off y (by omega),by show (s.ents.set _ _).length=_;rw [List.length_set],rfl,rfl,fun j z=>?_,.inl rfl⟩;show eAt (s.ents.set _ _) j=_;rw [kG y,if_neg z]
 exact ⟨h.b,rfl,rfl,rfl,fun _ _=>rfl,.inl rfl⟩
theorem aGq (y:m.Ok) (z:m'=m\/∃ x,m'=m.bG x):m'.Ok/\m'.M=m.M/\m'.left=m.left:=by
 rcases z with rfl|⟨x,rfl⟩
 ·exact ⟨y,rfl,rfl⟩
 exact ⟨y.bG x,Mk.lZ,Mk.aGG⟩
theorem Tb.Good.clear (h:s.Good m) (hs:s.Stl m) (hi:s.nx<s.ents.length) (h3:s.ph≠3) (hm:m.Ok):((s.clear m s.nx).1.at s.ph (s.nx+1)).Good (s.clear m s.nx).2:=by
 obtain ⟨h1,h2,h4,h5,h6,h7⟩:=Tb.clear_facts h hs hi h3 hm.hf.ok;have h8:=aGq hm h7;clear h7;generalize s.clear m s.nx=c at*;obtain ⟨z,c2⟩:=c;replace h2:z.ents.length=s.ents.length:=h2;refine ⟨(Tb.Base.at h1 _ _).marker (fun k hk=>by rw [h8.2.1];exact hk),h.p4,by show s.nx+1<=z.ents.length;omega,fun e=>absurd e h3,fun e i d y hd=>?_⟩;replace hd:z.fd i=true:=hd;replace y:i<z.ents.length:=y;replace d:s.nx+1<=i:=d;replace h4:z.fd=s.fd:=h4;rw [h4] at hd;rw [h2] at y;show (eAt z.ents i).tgt≠0;rw [h6 i (by omega)];exact h.fd e i (by omega) y hd
def Tb.mu (t:Tb) (m:Mk):Nat:=(4 - t.ph)*300+m.left+(t.ents.length - t.nx)
theorem aJN (t:Tb) (m:Mk) (a n:Nat):(t.at a n).mu m=(4 - a)*300+m.left+(t.ents.length - n):=rfl
theorem aJK (y:n<=t.ents.length):(t.aAr n).mu m<=m.left+(t.ents.length - n):=by
 show (t.at 4 _).mu m<=_;rw [aJN]
 by_cases h:nxt t.ents 3 n<t.ents.length
 ·have:=(nX h).1;omega
 have:=nV (l:=t.ents) (k:=3) (n:=n);omega
theorem aJL (y:t.ents.length<=20):(t.qV m).mu m<=300+m.left+t.ents.length:=by
 unfold Tb.qV;split
 ·have:=aJK (t:=t) (m:=m) (Nat.zero_le _);omega
 rw [aJN];omega
theorem aJM (y:t.ents.length<=20) (z:n<=t.ents.length):(t.set2 m n).mu m<=600+m.left+(t.ents.length - n):=by
 unfold Tb.set2;split
 ·rename_i h;rw [aJN];have:=(nX h).1;omega
 have:=aJL (t:=t) (m:=m) y;omega
theorem aOP (y:t.ents.length<=20) (d:n<=t.ents.length):(t.set1 m n).mu m<=900+m.left+(t.ents.length - n):=by
 unfold Tb.set1;split
 ·rename_i h;rw [aJN];have:=(nX h).1;omega
 have:=aJM (t:=t.find m) (m:=m) (n:=0) y (Nat.zero_le _);have z:(t.find m).ents.length=t.ents.length:=rfl;omega
theorem yS (h:t.Good m) (h1:1<=t.ph):(t.settle m).mu m<=t.mu m:=by
 have h4:=h.p4;have y:=h.b.le;have z:=h.nl;unfold Tb.settle;split
 ·rename_i e;have:=aOP (m:=m) y z;unfold Tb.mu at*;rw [e];omega
 split
 ·rename_i e;have:=aJM (m:=m) y z;unfold Tb.mu at*;rw [e];omega
 split
 ·rename_i e;have:=aJL (m:=m) y;have d:=h.z3 e;unfold Tb.mu at*;rw [e,d];omega
 split
 ·rename_i e;have:=aJK (m:=m) z;unfold Tb.mu at*;rw [e];omega
 omega
theorem Tb.Good.step (h:t.Good m) (z:m.Ok):(t.step m).2.2.2.1.Good (t.step m).2.2.2.2/\(t.step m).2.2.2.2.Ok/\(t.step m).2.2.2.2.M=m.M/\(t.ph≠0->((t.step m).2.2.1=0/\1<=(t.step m).2.2.2.1.ph/\(t.step m).2.2.2.1.mu (t.step m).2.2.2.2<t.mu m)\/((t.step m).2.2.1=3/\(t.step m).2.2.2.1.ph=0)):=by
 by_cases h0:t.ph=0
 ·unfold Tb.step;rw [if_pos h0];exact ⟨h,z,rfl,fun e=>absurd h0 e⟩
 have h1:1<=t.ph:=by omega
 have hk:=z.hf.ok;have hs:=h.settle hk;have y:=Tb.dA (m:=m) h1 h.p4;have h2:=yS h h1;unfold Tb.step;rw [if_neg h0];simp only;generalize t.settle m=s at*;split
 ·rename_i e;have hM:=Mk.nM (m:=m);have d:s.Good m.step.2.2:=hs.marker (fun k hk=>by rw [hM];exact hk);refine ⟨d.settle (by rw [hM];exact hk),z.step,hM,fun _=>.inl ⟨rfl,(Tb.dA (by omega) hs.p4).p1,?_⟩⟩;have h5:=yS d (by omega);have h6:=Mk.left_step z (y.c e);have h7:s.mu m.step.2.2+1=s.mu m:=by unfold Tb.mu;omega
  show (s.settle m.step.2.2).mu m.step.2.2<t.mu m;omega
 split
 ·refine ⟨⟨hs.b.at _ _,Nat.zero_le _,Nat.zero_le _,fun _=>rfl,fun e=>by simp [Tb.at] at e⟩,z,rfl,fun _=>.inr ⟨rfl,rfl⟩⟩
 rename_i e3 el;have hi:s.nx<s.ents.length:=by omega
 obtain ⟨c1,c2,c3,c4,c5,c6⟩:=Tb.clear_facts hs y hi e3 hk;obtain ⟨d1,d2,d3⟩:=aGq z c6;have d:=hs.clear y hi e3 z;have hp:1<=((s.clear m s.nx).1.at s.ph (s.nx+1)).ph:=y.p1;refine ⟨d.settle (by rw [d2];exact hk),d1,d2,fun _=>.inl ⟨rfl,(Tb.dA hp d.p4).p1,?_⟩⟩;have h5:=yS d hp;have h6:((s.clear m s.nx).1.at s.ph (s.nx+1)).mu (s.clear m s.nx).2=(4 - s.ph)*300+m.left+(s.ents.length - (s.nx+1)):=by
  rw [aJN,d3,c2]
 have h7:s.mu m=(4 - s.ph)*300+m.left+(s.ents.length - s.nx):=rfl;show (((s.clear m s.nx).1.at s.ph (s.nx+1)).settle (s.clear m s.nx).2).mu (s.clear m s.nx).2<t.mu m;omega
theorem Tb.Good.new:Tb.new.Good m:=⟨⟨by show 0<=20;omega,fun i y=>absurd y (Nat.not_lt_zero _),fun i y=>absurd y (Nat.not_lt_zero _),Nat.le_refl 0⟩,Nat.zero_le _,Nat.le_refl _,fun e=>rfl,fun e=>by simp [Tb.new] at e⟩
theorem Tb.Good.take (h:t.Good m):t.take.2.2.Good m:=by
 unfold Tb.take
 cases e:t.q with
 | nil=>exact h
 | cons x r=>exact ⟨⟨h.b.le,h.b.kd,h.b.us,by have:=h.b.ql;rw [e] at this;simp at this;show r.length<=t.zeros;omega⟩,h.p4,h.nl,h.z3,h.fd⟩
theorem Tb.Good.begin (h:t.Good m) (y:m.M.Ok):(t.begin m).2.Good m:=by
 unfold Tb.begin;split
 ·exact h
 exact Tb.Good.settle y ⟨h.b.at _ _,by show 1<=4;omega,Nat.zero_le _,fun e=>by simp [Tb.at] at e,fun e=>by simp [Tb.at] at e⟩
theorem aCe (l:List En) (e:En) {i:Nat} (y:i<l.length+1):eAt (l ++ [e]) i=if i=l.length then e else eAt l i:=by
 unfold eAt
 by_cases h:i=l.length
 ·rw [if_pos h,h];simp
 rw [if_neg h,List.getElem?_append_left (by omega)]
theorem Tb.Good.add (h:t.Good m) (kd x g:Int):(t.add m kd x g).2.2.Good m:=by
 unfold Tb.add;split
 ·exact h
 split
 ·exact h
 split
 ·exact h
 split
 ·exact h
 rename_i h1 h2 h3 h4;have d:(t.ents ++ [⟨kd,x,g⟩]:List En).length=t.ents.length+1:=by simp
 have h0:t.ph=0:=Classical.not_not.1 h2;refine ⟨⟨by show (t.ents ++ _).length<=20;rw [d];omega,fun i hi=>?_,fun i hi z=>?_,?_⟩,h.p4,by show t.nx<=(t.ents ++ _).length;rw [d];have:=h.nl;omega,h.z3,fun e=>?_⟩
 ·have y:i<t.ents.length+1:=by rw [<-d];exact hi
  show 1<=(eAt (t.ents ++ _) i).kind/\(eAt (t.ents ++ _) i).kind<=3;rw [aCe _ _ y];split
  ·show 1<=kd/\kd<=3;omega
  exact h.b.kd i (by omega)
 ·have y:i<t.ents.length+1:=by rw [<-d];exact hi
  replace z:(eAt (t.ents ++ [⟨kd,x,g⟩]) i).tgt≠0:=z;show (m.M.ob (eAt (t.ents ++ _) i).tgt).isSome=true;rw [aCe _ _ y] at z ⊢;split
  ·show (m.M.ob x).isSome=true
   cases e:(m.M.ob x).isSome
   ·exact absurd e h3
   rfl
  rename_i e;rw [if_neg e] at z;exact h.b.us i (by omega) z
 ·have hq:=h.b.ql;show t.q.length<=cnt (fun i=>decide ((eAt (t.ents ++ [⟨kd,x,g⟩]) i).tgt=0)) (t.ents ++ [(⟨kd,x,g⟩:En)]).length;rw [d];show _<=cnt _ t.ents.length+_;have hc:cnt (fun i=>decide ((eAt (t.ents ++ [⟨kd,x,g⟩]) i).tgt=0)) t.ents.length=t.zeros:=gG fun j hj=>by
   rw [aCe t.ents ⟨kd,x,g⟩ (show j<t.ents.length+1 by omega),if_neg (by omega)]
  omega
 exact absurd (show t.ph=2 from e) (by omega)
end
def En.key (e:En):Int:=if e.kind=3 then 4 else e.kind
def Tb.past (t0:Tb) (y nx:Nat) (i:Nat):Prop:=(eAt t0.ents i).key<(y:Int)\/((eAt t0.ents i).key=(y:Int)/\i<nx)
section
variable {t0 t:Tb} {m0 m:Mk} {n i k:Nat}
theorem pX {e:En} (h:1<=e.kind/\e.kind<=3):(e.key=1/\e.kind=1)\/(e.key=2/\e.kind=2)\/(e.key=4/\e.kind=3):=by
 unfold En.key
 by_cases y:e.kind=3
 ·rw [if_pos y];exact .inr (.inr ⟨rfl,y⟩)
 rw [if_neg y];omega
theorem yL {a b:Nat} (hk:∀ i,i<t0.ents.length->1<=(eAt t0.ents i).kind/\(eAt t0.ents i).kind<=3) (hb:a<b) (y:∀ i,i<t0.ents.length->(eAt t0.ents i).key<=(a:Int)\/(b:Int)<=(eAt t0.ents i).key) {nx:Nat} (hn:∀ i,i<t0.ents.length->nx<=i->(eAt t0.ents i).key≠(a:Int)) (z:i<t0.ents.length):t0.past b 0 i↔t0.past a nx i:=by
 unfold Tb.past;have h1:=y i z;have d:=hn i z;constructor
 ·rintro (h|h)
  ·by_cases e:(eAt t0.ents i).key=(a:Int)
   ·exact .inr ⟨e,by have:=fun x=>d x e;omega⟩
   exact .inl (by omega)
  omega
 rintro (h|h)
 ·exact .inl (by omega)
 exact .inl (by omega)
theorem yK {a nx nx':Nat} (e:nx<=nx') (d:∀ i,i<t0.ents.length->nx<=i->i<nx'->(eAt t0.ents i).key≠(a:Int)) (z:i<t0.ents.length):t0.past a nx' i↔t0.past a nx i:=by
 unfold Tb.past;have y:=d i z;constructor
 ·rintro (h|h)
  ·exact .inl h
  exact .inr ⟨h.1,by have:=fun x=>y x h.2 h.1;omega⟩
 rintro (h|h)
 ·exact .inl h
 exact .inr ⟨h.1,by omega⟩
theorem aJF (y:n<=t.ents.length) (a:Int):n<=nxt t.ents a n:=by
 by_cases h:nxt t.ents a n<t.ents.length
 ·exact (nX h).1
 have:=nV (l:=t.ents) (k:=a) (n:=n);omega
theorem aJE {l:List En} {x:Nat} (hx:x<l.length):∀ j,j≠x->eAt (l.set x (eAt l x).off) j=eAt l j:=fun j hj=>by rw [kG hx,if_neg hj]
theorem aNQ {l:List En} {x:Nat} (hx:x<l.length):eAt (l.set x (eAt l x).off) x=(eAt l x).off:=by rw [kG hx,if_pos rfl]
end
def En.fine (e:En) (m:Mk):Prop:=e.tgt=0\/m.col e.tgt≠0
structure Pst (t:Tb) (m:Mk):Prop where
 p:∀ i,i<t.ents.length->t.past t.ph t.nx i->(eAt t.ents i).fine m
 f:t.ph=2->∀ i,i<t.ents.length->(eAt t.ents i).kind=2->t.fd i=false->(eAt t.ents i).fine m
def Tb.All (t:Tb) (m:Mk):Prop:=∀ i,i<t.ents.length->(eAt t.ents i).fine m
section
variable {t t' s:Tb} {m m':Mk} {n i k:Nat}
theorem En.fine.mono {e:En} (h:e.fine m) (y:∀ x,m.col x≠0->m'.col x≠0):e.fine m':=h.imp id (y _)
theorem Pst.mono (h:Pst t m) (y:∀ x,m.col x≠0->m'.col x≠0):Pst t m':=⟨fun i hi hp=>(h.p i hi hp).mono y,fun e i hi hk hf=>(h.f e i hi hk hf).mono y⟩
theorem Tb.All.mono (h:t.All m) (y:∀ x,m.col x≠0->m'.col x≠0):t.All m':=fun i hi=>(h i hi).mono y
theorem aKN (hb:t.Base m) (d:i<t.ents.length) (hw:m.isW (eAt t.ents i).tgt=false):(eAt t.ents i).fine m:=by
 by_cases y:(eAt t.ents i).tgt=0
 ·exact .inl y
 refine .inr fun z=>?_;unfold Mk.isW at hw;rw [hb.us i d y,z] at hw
 cases hw
theorem Pst.move (h:Pst t m) {t':Tb} (z:t'.ents=t.ents) (hp:∀ i,i<t.ents.length->(t.past t'.ph t'.nx i↔t.past t.ph t.nx i)) (hf:t'.ph=2->∀ i,i<t.ents.length->(eAt t.ents i).kind=2->t'.fd i=false->(eAt t.ents i).fine m):Pst t' m:=by
 refine ⟨fun i y d=>?_,fun e i y hk hfd=>?_⟩
 ·have hq:t.past t'.ph t'.nx i:=by unfold Tb.past at d ⊢;rw [z] at d;exact d
  rw [z] at y ⊢;exact h.p i y ((hp i y).1 hq)
 rw [z] at y hk ⊢;exact hf e i y hk hfd
theorem Pst.aAr (hb:t.Base m) (h:Pst (t.at 4 n) m) (z:n<=t.ents.length):Pst (t.aAr n) m:=by
 refine h.move rfl (fun i y=>yK (t0:=t.at 4 n) (a:=4) (nx:=n) (nx':=nxt t.ents 3 n) (aJF z 3) (fun i y h1 h2 e=>?_) y) (fun e=>by simp [Tb.aAr,Tb.at] at e);have d:=wS (l:=t.ents) (k:=3) h1 h2;have h4:=pX (hb.kd i y);have h5:(eAt t.ents i).key=4:=e;omega
theorem Pst.qV (hb:t.Base m) (h:Pst (t.at 3 0) m):Pst (t.qV m) m:=by
 unfold Tb.qV;split
 ·refine Pst.aAr hb (h.move (t':=t.at 4 0) rfl (fun i y=>yL (t0:=t.at 3 0) (a:=3) (b:=4) (nx:=0) hb.kd (by omega) (fun i y=>?_) (fun i y _=>?_) y) (fun e=>by simp [Tb.at] at e)) (Nat.zero_le _)
  ·have:=pX (hb.kd i y);show (eAt t.ents i).key<=_\/_<=(eAt t.ents i).key;omega
  have:=pX (hb.kd i y);show (eAt t.ents i).key≠_;omega
 exact h
theorem Pst.set2 (hb:t.Base m) (h:Pst (t.at 2 n) m) (hn:n<=t.ents.length):Pst (t.set2 m n) m:=by
 have d:=aJF hn 2;have z:∀ i,i<t.ents.length->n<=i->i<nxt t.ents 2 n->(eAt t.ents i).key≠((2:Nat):Int):=fun i y h1 h2 e=>by
  have:=pX (hb.kd i y);have:=wS (l:=t.ents) (k:=2) h1 h2;omega
 unfold Tb.set2;split
 ·exact h.move rfl (fun i y=>yK (t0:=t.at 2 n) d z y) (fun _=>h.f rfl)
 rename_i h1;have h2:=nV (l:=t.ents) (k:=2) (n:=n);refine Pst.qV hb (h.move (t':=t.at 3 0) rfl (fun i y=>yL (t0:=t.at 2 n) (a:=2) (b:=3) (nx:=n) hb.kd (by omega) (fun i y=>?_) (fun i y h3=>z i y h3 (Nat.lt_of_lt_of_le (show i<t.ents.length from y) (by omega))) y) (fun e=>by simp [Tb.at] at e));have:=pX (hb.kd i y);show (eAt t.ents i).key<=_\/_<=(eAt t.ents i).key;omega
theorem Pst.set1 (hb:t.Base m) (h:Pst (t.at 1 n) m) (hn:n<=t.ents.length):Pst (t.set1 m n) m:=by
 have h0:=aJF hn 1;have d:∀ i,i<t.ents.length->n<=i->i<nxt t.ents 1 n->(eAt t.ents i).key≠((1:Nat):Int):=fun i y h1 h2 e=>by
  have:=pX (hb.kd i y);have:=wS (l:=t.ents) (k:=1) h1 h2;omega
 unfold Tb.set1;split
 ·exact h.move rfl (fun i y=>yK (t0:=t.at 1 n) h0 d y) (fun e=>by simp [Tb.at] at e)
 rename_i h1;have h2:=nV (l:=t.ents) (k:=1) (n:=n);refine Pst.set2 (t:=t.find m) hb.find (h.move (t':=(t.find m).at 2 0) rfl (fun i y=>yL (t0:=t.at 1 n) (a:=1) (b:=2) (nx:=n) hb.kd (by omega) (fun i y=>?_) (fun i y h3=>d i y h3 (Nat.lt_of_lt_of_le (show i<t.ents.length from y) (by omega))) y) (fun _ i y hk hf=>?_)) (Nat.zero_le _)
 ·have:=pX (hb.kd i y);show (eAt t.ents i).key<=_\/_<=(eAt t.ents i).key;omega
 have h4:(eAt t.ents i).kind=2:=hk;have z:(decide ((eAt t.ents i).kind=2) && m.isW (eAt t.ents i).tgt)=false:=hf;rw [h4] at z;exact aKN (t:=t) hb y z
theorem Pst.settle (hb:t.Base m) (h:Pst t m) (y:t.nx<=t.ents.length) (h3:t.ph=3->t.nx=0):Pst (t.settle m) m:=by
 obtain ⟨z,q,ph,nx,fd⟩:=t;unfold Tb.settle;split
 ·rename_i e;cases e;exact Pst.set1 hb h y
 split
 ·rename_i e;cases e;exact Pst.set2 hb h y
 split
 ·rename_i e;cases e;have d:=h3 rfl;cases d;exact Pst.qV hb h
 split
 ·rename_i e;cases e;exact Pst.aAr hb h y
 exact h
theorem Pst.start (hb:t.Base m):Pst (t.at 1 0) m:=by
 refine ⟨fun i hi y=>?_,fun e=>by simp [Tb.at] at e⟩;have h1:=pX (hb.kd i hi);unfold Tb.past at y;have z:(t.at 1 0).ph=1:=rfl;have d:(t.at 1 0).nx=0:=rfl;rw [z,d] at y;have h4:(eAt (t.at 1 0).ents i).key=(eAt t.ents i).key:=rfl;omega
theorem wP {x:Int}:∀ y,m.col y≠0->(m.bG x).col y≠0:=fun y hy=>by
 rcases Mk.rD (m:=m) (x:=x) y with h|⟨_,_,h,_⟩
 ·rw [h];exact hy
 exact absurd h hy
theorem xO (d:m.Ok):∀ y,m.col y≠0->m.step.2.2.col y≠0:=fun y hy=>by
 unfold Mk.step
 cases e:m.list with
 | nil=>exact hy
 | cons x l=>
  rcases Mk.wO d e y with ⟨z,_⟩|⟨_,z⟩|⟨_,z,_⟩
  ·show (m.dR x).col y≠0;rw [z];decide
  ·show (m.dR x).col y≠0;rw [z];exact hy
  exact absurd z hy
theorem aJS {r:Int×Int×Hp}:∀ y,m.col y≠0->(m.made r).2.2.col y≠0:=fun y hy=>by
 unfold Mk.made;simp only;split
 ·show jS m.col r.1 2 y≠0
  by_cases e:y=r.1
  ·rw [e,cO];decide
  rw [bM _ _ e];exact hy
 exact hy
theorem aLR (a b c:Int):∀ y,m.col y≠0->(m.store a b c).2.col y≠0:=fun y hy=>by
 unfold Mk.store;simp only;split
 ·exact wP _ (wP (m:=m.put _) _ hy)
 exact hy
theorem Pst.step (h:Pst t m) (hg:t.Good m) (hm:m.Ok) (hp:t.ph≠0):((t.step m).2.2.1=0->(t.step m).2.2.2.1.ph≠0/\Pst (t.step m).2.2.2.1 (t.step m).2.2.2.2)/\((t.step m).2.2.1≠0->(t.step m).2.2.2.1.ph=0/\(t.step m).2.2.2.1.All (t.step m).2.2.2.2/\(t.step m).2.2.2.2=m):=by
 have hs:=h.settle hg.b hg.nl hg.z3;have h7:=Tb.dA (m:=m) (t:=t) (by omega) hg.p4;have h6:=hg.settle hm.hf.ok;have x4:=(hg.step hm).2.2.2 hp;refine ⟨fun h0=>⟨?_,?_⟩,fun h0=>?_⟩
 ·rcases x4 with ⟨_,h1,_⟩|⟨h1,_⟩
  ·omega
  omega
 ·unfold Tb.step at h0 ⊢;rw [if_neg hp] at h0 ⊢;simp only at h0 ⊢;generalize t.settle m=s at *
  by_cases h3:s.ph=3
  ·rw [if_pos h3] at h0 ⊢;exact (hs.mono (xO hm)).settle (h6.b.marker (fun k hk=>by rw [Mk.nM];exact hk)) h6.nl h6.z3
  rw [if_neg h3] at h0 ⊢
  by_cases hl:s.ents.length<=s.nx
  ·rw [if_pos hl] at h0;exact absurd h0 (by show ¬ ((3:Int)=0);decide)
  rw [if_neg hl];have hi:s.nx<s.ents.length:=by omega
  have x2:=h6.clear h7 hi h3 hm;refine Pst.settle x2.b ?_ x2.nl x2.z3;have y2:(eAt s.ents s.nx).key=(s.ph:Int):=by
   have x8:=pX (h6.b.kd s.nx hi);have x9:=h7.p1;have y0:=h6.p4
   by_cases e1:s.ph=1\/s.ph=2
   ·have:=(h7.a e1).2;omega
   have e4:s.ph=4:=by omega
   have:=h7.d e4 hi;omega
  have x3:∀ i,s.past s.ph (s.nx+1) i->i≠s.nx->s.past s.ph s.nx i:=fun i h1 h2=>by
   rcases h1 with h1|⟨h1,h3⟩
   ·exact .inl h1
   exact .inr ⟨h1,by omega⟩
  have h9:∀ (z:List En) (q':List Int) (m':Mk),z.length=s.ents.length->(∀ j,j≠s.nx->eAt z j=eAt s.ents j)->(eAt z s.nx).kind=(eAt s.ents s.nx).kind->(eAt z s.nx).fine m'->(∀ y,m.col y≠0->m'.col y≠0)->Pst ⟨z,q',s.ph,s.nx+1,s.fd⟩ m':=fun z q' m' h1 h2 h3 h4 h5=>by
   refine ⟨fun i hi y1=>?_,fun e i hi hk hf=>?_⟩
   ·show (eAt z i).fine m'
    by_cases e:i=s.nx
    ·rw [e];exact h4
    rw [h2 i e];refine (hs.p i (by rw [<-h1];exact hi) (x3 i ?_ e)).mono h5;have x6:(eAt z i).key<(s.ph:Int)\/((eAt z i).key=(s.ph:Int)/\i<s.nx+1):=y1;rw [h2 i e] at x6;exact x6
   show (eAt z i).fine m';have h8:(eAt z i).kind=2:=hk
   by_cases e2:i=s.nx
   ·rw [e2];exact h4
   rw [h2 i e2] at h8 ⊢;exact (hs.f e i (by rw [<-h1];exact hi) h8 hf).mono h5
  have x1:(eAt (s.ents.set s.nx (eAt s.ents s.nx).off) s.nx).kind=(eAt s.ents s.nx).kind:=by rw [aNQ hi];rfl
  have x5:∀ m':Mk,(eAt (s.ents.set s.nx (eAt s.ents s.nx).off) s.nx).fine m':=fun m'=>by rw [aNQ hi];exact .inl rfl
  unfold Tb.clear;simp only
  by_cases e2:s.ph=2
  ·rw [if_pos e2];have h8:(eAt s.ents s.nx).kind=2:=(h7.a (.inr e2)).2.trans (by rw [e2];rfl)
   by_cases hf:s.fd s.nx=true
   ·rw [if_pos hf];exact h9 _ _ _ (List.length_set ..) (aJE hi) x1 (x5 _) wP
   rw [if_neg hf];exact h9 s.ents s.q m rfl (fun _ _=>rfl) rfl (hs.f e2 _ hi h8 (by cases hx:s.fd s.nx;rfl;exact absurd hx hf)) (fun _ x=>x)
  rw [if_neg e2]
  by_cases hw:m.isW (eAt s.ents s.nx).tgt=true
  ·rw [if_pos hw];exact h9 _ _ m (List.length_set ..) (aJE hi) x1 (x5 _) (fun _ x=>x)
  rw [if_neg hw];exact h9 s.ents s.q m rfl (fun _ _=>rfl) rfl (aKN h6.b hi (by cases hx:m.isW (eAt s.ents s.nx).tgt;rfl;exact absurd hx hw)) (fun _ x=>x)
 unfold Tb.step at h0 ⊢;rw [if_neg hp] at h0 ⊢;simp only at h0 ⊢;generalize t.settle m=s at *
 by_cases h3:s.ph=3
 ·rw [if_pos h3] at h0;exact absurd rfl h0
 rw [if_neg h3] at h0 ⊢
 by_cases hl:s.ents.length<=s.nx
 ·rw [if_pos hl];refine ⟨rfl,fun i hi=>hs.p i hi ?_,rfl⟩;have x9:=h7.p1;have y0:=h6.p4;have e4:s.ph=4:=by
   by_cases e1:s.ph=1\/s.ph=2
   ·have:=(h7.a e1).1;omega
   omega
  have x7:i<s.ents.length:=hi;have x8:=pX (h6.b.kd i x7);unfold Tb.past;omega
 rw [if_neg hl] at h0;exact absurd rfl h0
theorem Pst.begin (d:t.Good m) (hm:m.Ok) (e:t.ph=0) (hl:m.list=[]):(t.begin m).2.ph≠0/\Pst (t.begin m).2 m:=by
 have y:t.begin m=(0,(t.at 1 0).settle m):=by
  unfold Tb.begin;rw [if_neg (by intro h;rcases h with h|h;exact h e;exact h hl)]
 rw [y];have z:=Tb.dA (t:=t.at 1 0) (m:=m) (Nat.le_refl 1) (by show 1<=4;omega);refine ⟨?_,(Pst.start d.b).settle (d.b.at _ _) (Nat.zero_le _) (fun _=>rfl)⟩;have:=z.p1;show ((t.at 1 0).settle m).ph≠0;omega
end
def Hp.len (M:Hp) (h:Int):Int:=(M.type h).2.2.1
def Hp.bI (M:Hp) (h:Int):Nat->Hp
 | 0=>M
 | k+1=>if ((M.bI h k).isRef h (k:Int)).1=true then ((M.bI h k).set h (k:Int) 0).2 else M.bI h k
def Hp.blank (M:Hp) (h:Int):Hp:=M.bI h (M.len h).toNat
def Hp.bK (M:Hp) (l:List Int):Nat->Hp
 | 0=>M
 | k+1=>(M.bK l k).blank (gI l k)
structure Co where
 m:Mk
 t:Tb
 ph:Nat
 cr:Int
 rate:Int
 pages:Nat
 sw:List Int
 mv:Nat
def Co.new (y:Nat) (z:Int):Co:=⟨Mk.start (Hp.new y),Tb.new,0,0,z,y,[],0⟩
def Co.pU (c:Co) (m:Mk):Co:={ c with m:=m }
def Co.eU (c:Co) (t:Tb):Co:={ c with t:=t }
def Co.mark (c:Co):Int×Co:=(1+c.m.M.len c.m.step.1,{ c with m:=c.m.step.2.2 })
def Co.fC (c:Co) (s:List Int):Int×Co:=(1,{ c with ph:=3,sw:=s,m:=c.m.put (c.m.M.bK s s.length) })
def Co.jG (c:Co):Int×Co:=c.fC c.m.white
def Co.jH (c:Co):Int×Co:=(1,{ c with ph:=2,t:=(c.t.begin c.m).2 })
def Co.tail (c:Co):Int×Co:=if c.m.list=[] then c.jG else c.mark
def Co.refs (c:Co):Int×Co:=
 if (c.t.step c.m).2.2.1=0 then (if (c.t.step c.m).1=3 then 1+c.m.M.len (c.t.step c.m).2.1 else 1,{ c with t:=(c.t.step c.m).2.2.2.1,m:=(c.t.step c.m).2.2.2.2 })
 else ({ c with t:=(c.t.step c.m).2.2.2.1,m:=(c.t.step c.m).2.2.2.2 }:Co).tail
def Co.free (c:Co):Int×Co:=match c.sw with
 | []=>(1,{ c with ph:=4,mv:=0 })
 | h :: r=>(1+((c.m.M.blocks h).1.length:Int),{ c with sw:=r,m:=c.m.put (c.m.M.release h).2 })
def Co.move (c:Co):Int×Co:=
 if c.mv=8*c.pages\/c.m.M.P.move.2.2.1≠0 then (1,{ c with ph:=0,cr:=0 })
 else (4+(bsz (c.m.M.P.class (c.m.M.P.move.1.tdiv 16)).1:Int),{ c with m:=c.m.put c.m.M.move.2.2,mv:=c.mv+1 })
def Co.step (c:Co):Int×Int×Co:=
 if c.ph=0 then (0,13,c)
 else if c.ph=1 then (if c.m.list=[] then (c.jH.1,0,c.jH.2) else (c.mark.1,0,c.mark.2))
 else if c.ph=2 then (c.refs.1,0,c.refs.2)
 else if c.ph=3 then (c.free.1,0,c.free.2)
 else (c.move.1,0,c.move.2)
def Co.steps:Nat->Co->Co|0,c=>c|k+1,c=>(Co.steps k c).step.2.2
def Co.costs:Nat->Co->Int|0,_=>0|k+1,c=>Co.costs k c+(Co.steps k c).step.1
def Co.pay (c:Co):Co:=({ c with cr:=c.cr - c.step.1 }:Co).step.2.2
def Co.stops (c:Co):Prop:=c.ph=0\/c.cr<c.step.1
def Co.pays:Nat->Co->Co|0,c=>c|k+1,c=>(Co.pays k c).pay
open Classical in
noncomputable def Co.aGm (c:Co):Nat:=if h:∃ i,(Co.steps i c).ph=0/\∀ j,j<i->(Co.steps j c).ph≠0 then Classical.choose h else 0
open Classical in
noncomputable def Co.gives (c:Co):Nat:=if h:∃ i,(Co.pays i c).stops/\∀ j,j<i->¬ (Co.pays j c).stops then Classical.choose h else 0
noncomputable def Co.finish (c:Co):Int×Int×Int×Co:=if c.ph=0 then (0,0,13,c) else ((c.aGm:Int),Co.costs c.aGm c,0,Co.steps c.aGm c)
def Co.more (c:Co) (n:Int):Co:={ c with cr:=c.cr+n }
noncomputable def Co.give (c:Co) (n:Int):Int×Co:=if c.ph=0 then (0,c) else (((c.more n).gives:Int),Co.pays (c.more n).gives (c.more n))
noncomputable def Co.fZ (c:Co) (n:Int):Int×Int×Co:=if n<0\/10000<n then (0,1,c) else ((c.give n).1,0,(c.give n).2)
open Classical in
noncomputable def Co.begin (c:Co) (y:List Int):Int×Co:=
 if 192<y.length then (1,c) else if c.ph≠0 then (13,c) else if c.m.M.bZ y then (3,c)
 else (0,{ c with m:=(Mk.start c.m.M).aY y,ph:=1,cr:=-1 - (y.length:Int),mv:=0 })
def Co.hid (c:Co) (h:Int):Bool:=if c.ph=2 then c.m.isW h else decide (h∈c.sw)
def Co.bar (c:Co):Bool:=decide (c.ph=1\/c.ph=2)
def Co.newObj (c:Co) (k:Int) (l:List Bool):Int×Int×Co:=
 if c.bar then ((c.m.aH k l).1,(c.m.aH k l).2.1,{ c with m:=(c.m.aH k l).2.2 })
 else ((c.m.M.aH k l).1,(c.m.M.aH k l).2.1,{ c with m:=c.m.put (c.m.M.aH k l).2.2 })
def Co.dW (c:Co) (k a n:Int):Int×Int×Co:=
 if c.bar then ((c.m.aG k a n).1,(c.m.aG k a n).2.1,{ c with m:=(c.m.aG k a n).2.2 })
 else ((c.m.M.aG k a n).1,(c.m.M.aG k a n).2.1,{ c with m:=c.m.put (c.m.M.aG k a n).2.2 })
noncomputable def Co.aH (c:Co) (k:Int) (l:List Bool):Int×Int×Co:=if k<0\/10<=k\/7<l.length then (0,1,c) else (c.give c.rate).2.newObj k l
def aBp (n:Int):Int:=if 7<n then 1+(n+7).tdiv 8 else 1
noncomputable def Co.aG (c:Co) (k a n:Int):Int×Int×Co:=
 if n<0\/48<n\/¬ ((k=3/\a=0)\/(k=4/\0<=a/\a<10)) then (0,1,c) else (c.give (c.rate*aBp n)).2.dW k a n
def Co.get (c:Co) (h s:Int):Int×Int:=if c.hid h then (0,3) else c.m.M.get h s
def Co.store (c:Co) (h s v:Int):Int×Co:=
 if c.hid h=true\/((c.m.M.isRef h s).1=true/\c.hid v=true) then (3,c)
 else if c.bar then ((c.m.store h s v).1,{ c with m:=(c.m.store h s v).2 }) else ((c.m.M.set h s v).1,{ c with m:=c.m.put (c.m.M.set h s v).2 })
def Co.refer (c:Co) (k x g:Int):Int×Int×Co:=
 if c.ph=2 then (0,if k<1\/3<k then 1 else 13,c)
 else ((c.t.add c.m k (if c.hid x then 0 else x) g).1,(c.t.add c.m k (if c.hid x then 0 else x) g).2.1,{ c with t:=(c.t.add c.m k (if c.hid x then 0 else x) g).2.2 })
def Co.target (c:Co) (i:Int):Int×Int×Co:=
 if (c.t.target i).2≠0 then (0,(c.t.target i).2,c) else if c.hid (c.t.target i).1 then (0,0,c)
 else ((c.t.target i).1,0,if c.ph=1 then { c with m:=c.m.bG (c.t.target i).1 } else c)
def Co.take (c:Co):Int×Int×Co:=(c.t.take.1,c.t.take.2.1,{ c with t:=c.t.take.2.2 })
structure Co.Okc (c:Co):Prop where
 hf:c.m.M.OkF
 mo:c.ph=1\/c.ph=2->c.m.Ok
 nl:c.ph≠1->c.ph≠2->c.m.list=[]
 tg:c.t.Good c.m
 t0:c.ph≠2->c.t.ph=0
 p4:c.ph<=4
 sw:c.ph≠3->c.sw=[]
 su:∀ x,x∈c.sw->(c.m.M.ob x).isSome=true
 sn:c.sw.Nodup
 st:∀ i,i<c.t.ents.length->(eAt c.t.ents i).tgt∉c.sw
 pa:c.ph=2->c.t.ph≠0->Pst c.t c.m
 al:c.ph=2->c.t.ph=0->c.t.All c.m
 cr1 : -193<=c.cr
 c0:c.ph=0->c.cr=0
 rt:0<=c.rate/\c.rate<=100
 pg:1<=c.pages/\c.pages<=24
 mv:c.mv<=8*c.pages
structure Co.Ok (c:Co):Prop where
 k:c.Okc
 cr2:c.cr<=60
section
variable {M:Hp} {x:Int}
theorem aNX {k:Nat} (h:x∈M.aX k):(M.ob x).isSome=true/\1<=x/\x<=(k:Int):=by
 induction k with
 | zero=>cases h
 | succ k z=>
  unfold Hp.aX at h;rcases List.mem_append.1 h with h|h
  ·have:=z h;exact ⟨this.1,this.2.1,by omega⟩
  split at h
  ·rename_i e;have y:x=(k:Int)+1:=by simpa using h
   rw [y];exact ⟨e,by omega,by omega⟩
  cases h
theorem aMG (M:Hp) (k:Nat):(M.aX k).Nodup:=by
 induction k with
 | zero=>exact List.nodup_nil
 | succ k z=>
  unfold Hp.aX;rw [List.nodup_append];refine ⟨z,by split<;>simp,fun a y b hb e=>?_⟩
  have d:=aNX y;split at hb
  ·have:b=(k:Int)+1:=by simpa using hb
   omega
  cases hb
theorem aSc {k:Nat} (h:(M.ob x).isSome=true) (z:1<=x) (d:x<=(k:Int)):x∈M.aX k:=by
 induction k with
 | zero=>omega
 | succ k y=>
  unfold Hp.aX
  by_cases e:x=(k:Int)+1
  ·rw [<-e,if_pos h];simp
  exact List.mem_append_left _ (y (by omega))
theorem Hp.Ok.aQn (y:M.Ok):x∈M.handles↔(M.ob x).isSome=true:=
 ⟨fun h=>(aNX h).1,fun h=>aSc h (y.inR h).1 (y.inR h).2⟩
theorem Mk.yX {m:Mk} (y:m.M.Ok):x∈m.white↔(m.M.ob x).isSome=true/\m.col x=0:=by
 unfold Mk.white;rw [List.mem_filter,decide_eq_true_eq,y.aQn]
theorem Mk.xI (m:Mk):m.white.Nodup:=(aMG m.M 192).filter _
def Hp.Same (M N:Hp):Prop:=∀ k,(N.ob k).isSome=(M.ob k).isSome
theorem Hp.Same.refl (M:Hp):M.Same M:=fun _=>rfl
theorem Hp.Same.trans {M N O:Hp} (h:M.Same N) (y:N.Same O):M.Same O:=fun k=>(y k).trans (h k)
theorem Hp.aP (M:Hp) (h s v:Int):M.Same (M.set h s v).2:=fun k=>M.oP h s v k
theorem vT (z:M.OkF) (h:Int) (k:Nat):(M.bI h k).OkF/\M.Same (M.bI h k):=by
 induction k with
 | zero=>exact ⟨z,.refl M⟩
 | succ k y=>
  unfold Hp.bI;split
  ·exact ⟨y.1.set _ _ _,y.2.trans (Hp.aP _ _ _ _)⟩
  exact y
theorem nH (z:M.OkF) (l:List Int) (k:Nat):(M.bK l k).OkF/\M.Same (M.bK l k):=by
 induction k with
 | zero=>exact ⟨z,.refl M⟩
 | succ k y=>
  have:=vT y.1 (gI l k) ((M.bK l k).len (gI l k)).toNat
  exact ⟨this.1,y.2.trans this.2⟩
theorem aDh (M:Hp):M.Same M.move.2.2:=fun k=>by
 unfold Hp.move;split
 ·split
  ·rename_i o y _;unfold Hp.eX;show (eU M.ob _ _ k).isSome=_
   by_cases e:k=(M.owner M.P.move.1:Int)+1
   ·rw [e,aZ,y];rfl
   rw [bD _ _ e]
  rfl
 rfl
theorem mD (M:Hp) {h k:Int} (e:k≠h):(M.release h).2.ob k=M.ob k:=by
 unfold Hp.release;split
 ·rfl
 split
 ·rfl
 show eU M.ob h none k=_;rw [bD _ _ e]
theorem fG (y:M.Ok) (h:Int):0<=M.len h/\M.len h<=48:=by
 unfold Hp.len Hp.type;split
 ·exact ⟨Int.le_refl 0,by decide⟩
 rename_i o z;have:=(y.th h o z).le;show 0<=(o.slots.length:Int)/\(o.slots.length:Int)<=48;omega
theorem kX (y:M.Ok) (h:Int):(M.blocks h).1.length<=7:=by
 unfold Hp.blocks;split
 ·exact Nat.zero_le _
 rename_i o z;exact (y.aCn z).2.1
end
section
variable {c:Co}
theorem Tb.Good.us2 {t:Tb} {m y:Mk} (h:t.Good m) (z:∀ i,i<t.ents.length->(eAt t.ents i).tgt≠0->(y.M.ob (eAt t.ents i).tgt).isSome=true):t.Good y:=
 ⟨⟨h.b.le,h.b.kd,z,h.b.ql⟩,h.p4,h.nl,h.z3,h.fd⟩
theorem Co.Okc.mark (h:c.Okc) (hp:c.ph=1\/c.ph=2):c.mark.2.Okc:=by
 have hm:=h.mo hp;have d:c.m.step.2.2.M=c.m.M:=Mk.nM;refine ⟨by show c.m.step.2.2.M.OkF;rw [d];exact h.hf,fun _=>hm.step,fun h1 h2=>absurd hp (by intro y;rcases y with y|y;exact h1 y;exact h2 y),h.tg.marker (fun k hk=>by show (c.m.step.2.2.M.ob k).isSome=true;rw [d];exact hk),h.t0,h.p4,h.sw,fun x hx=>by show (c.m.step.2.2.M.ob x).isSome=true;rw [d];exact h.su x hx,h.sn,h.st,fun e z=>(h.pa e z).mono (xO hm),fun e z=>(h.al e z).mono (xO hm),h.cr1,h.c0,h.rt,h.pg,h.mv⟩
theorem Co.Okc.jH (h:c.Okc) (d:c.ph=1) (z:c.m.list=[]):c.jH.2.Okc:=by
 have y:=h.mo (.inl d);have ht:=h.t0 (by omega);have hb:=Pst.begin h.tg y ht z;refine ⟨h.hf,fun _=>y,fun _ h2=>absurd rfl h2,h.tg.begin y.hf.ok,fun h2=>absurd rfl h2,by show 2<=4;omega,fun _=>h.sw (by omega),h.su,h.sn,fun i hi=>?_,fun _ _=>hb.2,fun _ e=>absurd e hb.1,h.cr1,fun e=>(by cases e),h.rt,h.pg,h.mv⟩;show _∉c.sw;rw [h.sw (by omega)];simp
theorem Co.aGF (c:Co) (s:List Int):(c.fC s).2.cr=c.cr:=rfl
theorem Co.Okc.fC (h:c.Okc) (d:c.ph=2) (ht:c.t.ph=0) (hl:c.m.list=[]) {s:List Int} (hs:∀ x,x∈s->(c.m.M.ob x).isSome=true/\c.m.col x=0) (hn:s.Nodup):(c.fC s).2.Okc:=by
 have hm:=h.mo (.inr d);obtain ⟨h1,z⟩:=nH h.hf s s.length;refine ⟨h1,fun e=>(by rcases e with e|e<;>cases e),fun _ _=>hl,h.tg.marker (fun k hk=>by show ((c.m.M.bK s s.length).ob k).isSome=true;rw [z k];exact hk),fun _=>ht,by show 3<=4;omega,fun e=>absurd rfl e,fun x hx=>by show ((c.m.M.bK s s.length).ob x).isSome=true;rw [z x];exact (hs x hx).1,hn,fun i hi hx=>?_,fun e=>(by cases e),fun e=>(by cases e),h.cr1,fun e=>(by cases e),h.rt,h.pg,h.mv⟩
 obtain ⟨h3,h4⟩:=hs _ hx;rcases h.al d ht i hi with y|y
 ·have:=(h.hf.ok.inR h3).1;have h6:(eAt (c.fC s).2.t.ents i).tgt=0:=y;omega
 exact y h4
theorem Co.Okc.jG (h:c.Okc) (z:c.ph=2) (d:c.t.ph=0) (y:c.m.list=[]):c.jG.2.Okc:=by
 unfold Co.jG;exact h.fC z d y (fun x hx=>(Mk.yX h.hf.ok).1 hx) c.m.xI
theorem Co.Okc.tail (h:c.Okc) (y:c.ph=2) (d:c.t.ph=0):c.tail.2.Okc:=by
 unfold Co.tail;split
 ·rename_i z;exact h.jG y d z
 exact h.mark (.inr y)
def Co.stepT (c:Co):Co:={ c with t:=(c.t.step c.m).2.2.2.1,m:=(c.t.step c.m).2.2.2.2 }
theorem Co.Okc.stepT (h:c.Okc) (z:c.ph=2):c.stepT.Okc/\((c.t.step c.m).2.2.1≠0->c.stepT.t.ph=0)/\((c.t.step c.m).2.2.1=0->c.stepT.t.ph≠0):=by
 have hm:=h.mo (.inr z);obtain ⟨g1,g2,g3,_⟩:=h.tg.step hm;have h4:=h.sw (by omega);have base:∀ (h1:c.stepT.t.ph≠0->Pst c.stepT.t c.stepT.m) (d:c.stepT.t.ph=0->c.stepT.t.All c.stepT.m),c.stepT.Okc:=fun h1 d=>
  ⟨by show (c.t.step c.m).2.2.2.2.M.OkF;rw [g3];exact h.hf,fun _=>g2,fun _ h2=>absurd z h2,g1,fun h2=>absurd z h2,h.p4,h.sw,fun x hx=>by show ((c.t.step c.m).2.2.2.2.M.ob x).isSome=true;rw [g3];exact h.su x hx,h.sn,fun i hi=>by show _∉c.sw;rw [h4];simp,fun _ e=>h1 e,fun _ e=>d e,h.cr1,h.c0,h.rt,h.pg,h.mv⟩
 by_cases y:c.t.ph=0
 ·have hs:c.t.step c.m=(0,0,13,c.t,c.m):=by unfold Tb.step;rw [if_pos y]
  have ht:c.stepT.t=c.t:=by show (c.t.step c.m).2.2.2.1=_;rw [hs]
  have h3:c.stepT.m=c.m:=by show (c.t.step c.m).2.2.2.2=_;rw [hs]
  refine ⟨base (fun e=>absurd (by rw [ht];exact y) e) (fun _=>by rw [ht,h3];exact h.al z y),fun _=>by rw [ht];exact y,fun e=>?_⟩;rw [hs] at e;cases e
 obtain ⟨s1,s2⟩:=(h.pa z y).step h.tg hm y
 by_cases e0:(c.t.step c.m).2.2.1=0
 ·obtain ⟨s3,s4⟩:=s1 e0;exact ⟨base (fun _=>s4) (fun e=>absurd e s3),fun e=>absurd e0 e,fun _=>s3⟩
 obtain ⟨s3,s4,s5⟩:=s2 e0;exact ⟨base (fun e=>absurd s3 e) (fun _=>s4),fun _=>s3,fun e=>absurd e e0⟩
theorem Co.fV (c:Co):c.refs=if (c.t.step c.m).2.2.1=0 then (if (c.t.step c.m).1=3 then 1+c.m.M.len (c.t.step c.m).2.1 else 1,c.stepT) else c.stepT.tail:=rfl
theorem Co.Okc.refs (h:c.Okc) (z:c.ph=2):c.refs.2.Okc:=by
 obtain ⟨y,d,h3⟩:=h.stepT z;rw [Co.fV];split
 ·exact y
 rename_i e;exact y.tail z (d e)
theorem Co.Okc.free (h:c.Okc) (hp:c.ph=3):c.free.2.Okc:=by
 have ht:=h.t0 (by omega);unfold Co.free
 cases e:c.sw with
 | nil=>exact ⟨h.hf,fun e=>(by rcases e with e|e<;>cases e),fun _ _=>h.nl (by omega) (by omega),h.tg,fun _=>ht,Nat.le_refl 4,fun _=>rfl,fun x hx=>(by cases hx),List.nodup_nil,fun i d hx=>(by cases hx),fun e=>by (cases e),fun e=>by (cases e),h.cr1,fun e=>by (cases e),h.rt,h.pg,Nat.zero_le _⟩
 | cons x r=>
  have hn:=h.sn;rw [e] at hn;obtain ⟨h0,h1⟩:=List.nodup_cons.1 hn;have hx:∀ y,y∈r->y≠x:=fun y hy z=>h0 (by rw [<-z];exact hy);refine ⟨h.hf.release x,fun e=>by have z:c.ph=1\/c.ph=2:=e;omega,h.nl,h.tg.us2 (fun i d hz=>?_),h.t0,h.p4,fun z=>absurd hp z,fun y hy=>?_,h1,fun i d hy=>?_,fun z=>by have e3:c.ph=2:=z;omega,fun z=>by have e3:c.ph=2:=z;omega,h.cr1,h.c0,h.rt,h.pg,h.mv⟩
  ·show ((c.m.M.release x).2.ob (eAt c.t.ents i).tgt).isSome=true;rw [mD _ (fun z=>h.st i d (by rw [e,z];exact List.mem_cons_self))];exact h.tg.b.us i d hz
  ·show ((c.m.M.release x).2.ob y).isSome=true;rw [mD _ (hx y hy)];exact h.su y (by rw [e];exact List.mem_cons_of_mem _ hy)
  exact h.st i d (by rw [e];exact List.mem_cons_of_mem _ hy)
theorem Co.Okc.heap (h:c.Okc) (y:¬ (c.ph=1\/c.ph=2)) {M:Hp} (d:M.OkF) (z:∀ k,(c.m.M.ob k).isSome=true->(M.ob k).isSome=true):({ c with m:=c.m.put M }:Co).Okc:=
 ⟨d,fun e=>absurd e y,h.nl,h.tg.marker z,h.t0,h.p4,h.sw,fun x hx=>z x (h.su x hx),h.sn,h.st,fun e=>absurd (.inr e) y,fun e=>absurd (.inr e) y,h.cr1,h.c0,h.rt,h.pg,h.mv⟩
theorem Co.Okc.marker (h:c.Okc) (hp:c.ph=1\/c.ph=2) {m:Mk} (d:m.Ok) (hu:∀ k,(c.m.M.ob k).isSome=true->(m.M.ob k).isSome=true) (z:∀ k,c.m.col k≠0->m.col k≠0):({ c with m:=m }:Co).Okc:=
 ⟨d.hf,fun _=>d,fun h1 h2=>absurd hp (by intro y;rcases y with y|y;exact h1 y;exact h2 y),h.tg.marker hu,h.t0,h.p4,h.sw,fun x hx=>hu x (h.su x hx),h.sn,h.st,fun e e2=>(h.pa e e2).mono z,fun e e2=>(h.al e e2).mono z,h.cr1,h.c0,h.rt,h.pg,h.mv⟩
theorem Co.Okc.move (h:c.Okc) (hp:c.ph=4):c.move.2.Okc:=by
 have ht:=h.t0 (by omega);unfold Co.move;split
 ·exact ⟨h.hf,fun e=>(by rcases e with e|e<;>cases e),fun _ _=>h.nl (by omega) (by omega),h.tg,fun _=>ht,Nat.zero_le _,fun _=>h.sw (by omega),h.su,h.sn,h.st,fun e=>by (cases e),fun e=>by (cases e),by show (-193:Int)<=0;omega,fun _=>rfl,h.rt,h.pg,h.mv⟩
 rename_i z;have y:=h.heap (by omega) h.hf.move (fun k d=>by rw [aDh];exact d);exact ⟨y.hf,y.mo,y.nl,y.tg,y.t0,y.p4,y.sw,y.su,y.sn,y.st,y.pa,y.al,y.cr1,y.c0,y.rt,y.pg,by have h2:=h.mv;have h3:c.mv≠8*c.pages:=fun e=>z (.inl e);show c.mv+1<=8*c.pages;omega⟩
theorem Co.Okc.step (h:c.Okc):c.step.2.2.Okc:=by
 unfold Co.step
 by_cases h0:c.ph=0
 ·rw [if_pos h0];exact h
 rw [if_neg h0]
 by_cases y:c.ph=1
 ·rw [if_pos y]
  by_cases e:c.m.list=[]
  ·rw [if_pos e];exact h.jH y e
  rw [if_neg e];exact h.mark (.inl y)
 rw [if_neg y]
 by_cases z:c.ph=2
 ·rw [if_pos z];exact h.refs z
 rw [if_neg z]
 by_cases d:c.ph=3
 ·rw [if_pos d];exact h.free d
 rw [if_neg d];exact h.move (by have:=h.p4;omega)
theorem Co.Okc.aAf (h:c.Okc) (z:c.ph≠0) {n:Int} (y : -193<=n):({ c with cr:=n }:Co).Okc:=
 ⟨h.hf,h.mo,h.nl,h.tg,h.t0,h.p4,h.sw,h.su,h.sn,h.st,h.pa,h.al,y,fun e=>absurd e z,h.rt,h.pg,h.mv⟩
theorem Co.aIU (c:Co):c.step.2.2.cr=c.cr\/(c.step.2.2.ph=0/\c.step.2.2.cr=0):=by
 unfold Co.step
 by_cases y:c.ph=0
 ·rw [if_pos y];exact .inl rfl
 rw [if_neg y]
 by_cases z:c.ph=1
 ·rw [if_pos z]
  by_cases hl:c.m.list=[]
  ·rw [if_pos hl];exact .inl rfl
  rw [if_neg hl];exact .inl rfl
 rw [if_neg z]
 by_cases d:c.ph=2
 ·rw [if_pos d];show c.refs.2.cr=c.cr\/_;rw [Co.fV];split
  ·exact .inl rfl
  unfold Co.tail;split
  ·unfold Co.jG;exact .inl (Co.aGF _ _)
  exact .inl rfl
 rw [if_neg d]
 by_cases e:c.ph=3
 ·rw [if_pos e];show c.free.2.cr=c.cr\/_;unfold Co.free;split<;>exact .inl rfl
 rw [if_neg e];show c.move.2.cr=c.cr\/(c.move.2.ph=0/\c.move.2.cr=0);unfold Co.move;split
 ·exact .inr ⟨rfl,rfl⟩
 exact .inl rfl
theorem Co.Ok.step (h:c.Ok):c.step.2.2.Ok:=⟨h.k.step,by rcases c.aIU with y|⟨_,y⟩;rw [y];exact h.cr2;rw [y];decide⟩
theorem Co.Ok.steps (h:c.Ok):∀ k,(Co.steps k c).Ok
 | 0=>h
 | k+1=>(Co.Ok.steps h k).step
theorem aLd {k:Int} (h:k<=2):2<=bsz k/\bsz k<=8:=by
 unfold bsz;have y:k.toNat=0\/k.toNat=1\/k.toNat=2:=by omega
 rcases y with y|y|y<;>rw [y]<;>decide
theorem aCl {P:Pl} (y:P.ok) (i:Int):(P.class i).1<=2:=by
 unfold Pl.class;split
 ·decide
 rename_i h;have:=(y i.toNat (by omega)).cls;show (P.pg i.toNat).cls<=2;rcases this with h1|h1|h1|h1<;>omega
theorem Co.aIO (h:c.Okc):1<=c.tail.1/\c.tail.1<=49:=by
 unfold Co.tail;split
 ·exact ⟨Int.le_refl 1,by show (1:Int)<=49;decide⟩
 have:=fG h.hf.ok c.m.step.1;show 1<=1+c.m.M.len c.m.step.1/\1+c.m.M.len c.m.step.1<=49;omega
theorem Co.Okc.cost (h:c.Okc) (hp:c.ph≠0):1<=c.step.1/\c.step.1<=60/\c.step.2.1=0:=by
 unfold Co.step;rw [if_neg hp]
 by_cases h1:c.ph=1
 ·rw [if_pos h1]
  by_cases z:c.m.list=[]
  ·rw [if_pos z];exact ⟨Int.le_refl 1,by show (1:Int)<=60;decide,rfl⟩
  rw [if_neg z];have:=fG h.hf.ok c.m.step.1;show 1<=1+c.m.M.len c.m.step.1/\1+c.m.M.len c.m.step.1<=60/\_;exact ⟨by omega,by omega,rfl⟩
 rw [if_neg h1]
 by_cases y:c.ph=2
 ·rw [if_pos y];show 1<=c.refs.1/\c.refs.1<=60/\(0:Int)=0;obtain ⟨k1,k2,_⟩:=h.stepT y;rw [Co.fV];split
  ·have z:=fG h.hf.ok (c.t.step c.m).2.1;generalize c.m.M.len (c.t.step c.m).2.1=n at *
   by_cases d:(c.t.step c.m).1=3
   ·rw [if_pos d];show 1<=1+n/\1+n<=60/\_;exact ⟨by omega,by omega,rfl⟩
   rw [if_neg d];exact ⟨Int.le_refl 1,by show (1:Int)<=60;decide,rfl⟩
  have:=Co.aIO k1;exact ⟨this.1,by omega,rfl⟩
 rw [if_neg y]
 by_cases h3:c.ph=3
 ·rw [if_pos h3];show 1<=c.free.1/\c.free.1<=60/\(0:Int)=0;unfold Co.free;split
  ·exact ⟨Int.le_refl 1,by show (1:Int)<=60;decide,rfl⟩
  rename_i x r e;have:=kX h.hf.ok x;show 1<=1+((c.m.M.blocks x).1.length:Int)/\1+((c.m.M.blocks x).1.length:Int)<=60/\_;exact ⟨by omega,by omega,rfl⟩
 rw [if_neg h3];show 1<=c.move.1/\c.move.1<=60/\(0:Int)=0;unfold Co.move;split
 ·exact ⟨Int.le_refl 1,by show (1:Int)<=60;decide,rfl⟩
 have:=aLd (aCl h.hf.ok.p (c.m.M.P.move.1.tdiv 16));show 1<=4+(bsz _:Int)/\4+(bsz _:Int)<=60/\_;exact ⟨by omega,by omega,rfl⟩
theorem Co.nK (y:c.ph=0):c.step=(0,13,c):=by unfold Co.step;rw [if_pos y]
end
section
variable {c:Co}
def Co.mu (c:Co):Nat:=if c.ph=0 then 0 else if c.ph=1 then 30000+c.m.left else if c.ph=2 then 20000+(if c.t.ph=0 then c.m.left else 300+c.t.mu c.m) else if c.ph=3 then 10000+c.sw.length else 1+(8*c.pages - c.mv)
theorem aNK {t:Tb} {m:Mk} (h:t.Good m):t.mu m<=1412:=by
 have:=Mk.left_le (m:=m);have:=h.b.le;unfold Tb.mu;omega
theorem xJ (m:Mk):m.white.length<=192:=by
 have y:m.white.length<=m.M.handles.length:=List.length_filter_le _ _;have z:m.M.handles.length=m.used:=(Mk.aLF m).symm;have d:m.used<=192:=qY _ _;omega
theorem Co.Okc.vV (h:c.Okc):c.sw.length<=192:=aFP h.sn (fun x hx=>h.hf.ok.inR (h.su x hx))
theorem Co.aMs (h:c.Okc):c.mu<=30192:=by
 have y:=Mk.left_le (m:=c.m);have z:=aNK h.tg;have d:=h.vV;have e:=h.pg;unfold Co.mu;split
 ·omega
 split
 ·omega
 split
 ·split<;>omega
 split
 ·omega
 omega
theorem aDm (z:c.m.Ok) (y:c.m.list≠[]):c.mark.2.m.left+1=c.m.left:=Mk.left_step z y
theorem aGE (c:Co) (s:List Int):(c.fC s).2.mu=10000+s.length:=by
 have h:∀ d:Co,d.ph=3->d.mu=10000+d.sw.length:=fun d hd=>by unfold Co.mu;rw [if_neg (by omega),if_neg (by omega),if_neg (by omega),if_pos hd]
 exact h _ rfl
theorem Co.mu_step (h:c.Okc) (hp:c.ph≠0):c.step.2.2.mu<c.mu:=by
 have h9:=Mk.left_le (m:=c.m);unfold Co.step;rw [if_neg hp]
 by_cases h1:c.ph=1
 ·rw [if_pos h1];have e1:c.mu=30000+c.m.left:=by unfold Co.mu;rw [if_neg hp,if_pos h1]
  by_cases hl:c.m.list=[]
  ·rw [if_pos hl,e1];have hk:=h.jH h1 hl;have h3:=aNK hk.tg;have h4:c.jH.2.m.left=c.m.left:=rfl;show c.jH.2.mu<_;have e2:c.jH.2.mu=20000+(if c.jH.2.t.ph=0 then c.jH.2.m.left else 300+c.jH.2.t.mu c.jH.2.m):=by
    unfold Co.mu;rw [if_neg (show ¬ c.jH.2.ph=0 by show ¬ (2:Nat)=0;decide),if_neg (show ¬ c.jH.2.ph=1 by show ¬ (2:Nat)=1;decide),if_pos (show c.jH.2.ph=2 from rfl)]
   rw [e2];split<;>omega
  rw [if_neg hl,e1];have y:=aDm (h.mo (.inl h1)) hl;show c.mark.2.mu<_;have e2:c.mark.2.mu=30000+c.mark.2.m.left:=by
   unfold Co.mu;rw [if_neg (show ¬ c.mark.2.ph=0 from hp),if_pos (show c.mark.2.ph=1 from h1)]
  omega
 rw [if_neg h1]
 by_cases y:c.ph=2
 ·rw [if_pos y];have hm:=h.mo (.inr y);have h0:∀ d:Co,d.ph=2->d.mu=20000+(if d.t.ph=0 then d.m.left else 300+d.t.mu d.m):=fun d hd=>by
   unfold Co.mu;rw [if_neg (by omega),if_neg (by omega),if_pos hd]
  obtain ⟨k1,k2,k3⟩:=h.stepT y;obtain ⟨g1,g2,g3,g4⟩:=h.tg.step hm;show c.refs.2.mu<_;rw [Co.fV,h0 c y];split
  ·rename_i e0;have h8:c.stepT.t.ph≠0:=k3 e0;have z:c.t.ph≠0:=fun e=>by
    have hs:c.t.step c.m=(0,0,13,c.t,c.m):=by unfold Tb.step;rw [if_pos e]
    rw [hs] at e0;cases e0
   show c.stepT.mu<_;rw [h0 c.stepT y,if_neg h8,if_neg z];rcases g4 z with g5|g5
   ·have:c.stepT.t.mu c.stepT.m<c.t.mu c.m:=g5.2.2;omega
   rw [e0] at g5;cases g5.1
  rename_i e0;have hz:c.stepT.t.ph=0:=k2 e0;have h7:c.stepT.m=c.m:=by
   by_cases z:c.t.ph=0
   ·have hs:c.t.step c.m=(0,0,13,c.t,c.m):=by unfold Tb.step;rw [if_pos z]
    show (c.t.step c.m).2.2.2.2=_;rw [hs]
   exact (((h.pa y z).step h.tg hm z).2 e0).2.2
  unfold Co.tail;split
  ·have:=xJ c.stepT.m;unfold Co.jG;rw [aGE];omega
  rename_i hl;have h4:=aDm (k1.mo (.inr y)) hl;show c.stepT.mark.2.mu<_;rw [h0 c.stepT.mark.2 y,if_pos (show c.stepT.mark.2.t.ph=0 from hz)];rw [h7] at h4;split
  ·omega
  omega
 rw [if_neg y]
 by_cases h3:c.ph=3
 ·rw [if_pos h3];have e1:c.mu=10000+c.sw.length:=by unfold Co.mu;rw [if_neg hp,if_neg h1,if_neg y,if_pos h3]
  show c.free.2.mu<_;rw [e1];unfold Co.free
  cases e:c.sw with
  | nil=>
   show (1+(8*c.pages - 0))<_;have:=h.pg;simp only [List.length_nil];omega
  | cons x r=>
   simp only;have e2:({ c with sw:=r,m:=c.m.put (c.m.M.release x).2 }:Co).mu=10000+r.length:=by
    unfold Co.mu;rw [if_neg (by exact hp),if_neg (by exact h1),if_neg (by exact y),if_pos (by exact h3)]
   rw [e2,List.length_cons];omega
 rw [if_neg h3];have e1:c.mu=1+(8*c.pages - c.mv):=by unfold Co.mu;rw [if_neg hp,if_neg h1,if_neg y,if_neg h3]
 show c.move.2.mu<_;rw [e1];unfold Co.move;split
 ·show 0<_;omega
 rename_i hc;have h5:=h.mv;have h6:c.mv≠8*c.pages:=fun e=>hc (.inl e);have e2:({ c with m:=c.m.put c.m.M.move.2.2,mv:=c.mv+1 }:Co).mu=1+(8*c.pages - (c.mv+1)):=by
  unfold Co.mu;rw [if_neg (by exact hp),if_neg (by exact h1),if_neg (by exact y),if_neg (by exact h3)]
 show ({ c with m:=c.m.put c.m.M.move.2.2,mv:=c.mv+1 }:Co).mu<_;rw [e2];omega
theorem Co.Okc.steps (h:c.Okc):∀ k,(Co.steps k c).Okc
 | 0=>h
 | k+1=>(Co.Okc.steps h k).step
theorem Co.oO (h:c.Okc) (k:Nat) (y:∀ j,j<k->(Co.steps j c).ph≠0):(Co.steps k c).mu+k<=c.mu:=by
 induction k with
 | zero=>exact Nat.le_refl _
 | succ k z=>
  have d:=z (fun j hj=>y j (by omega));have e:=Co.mu_step (h.steps k) (y k (by omega));show (Co.steps k c).step.2.2.mu+(k+1)<=_;omega
theorem Co.zY (h:c.Okc):(Co.steps c.aGm c).ph=0/\(∀ j,j<c.aGm->(Co.steps j c).ph≠0)/\c.aGm<=31000:=by
 have y:∃ i,(Co.steps i c).ph=0/\∀ j,j<i->(Co.steps j c).ph≠0:=by
  have z:=dU (fun i=>decide ((Co.steps i c).ph=0)) 31000;generalize fst (fun i=>decide ((Co.steps i c).ph=0)) 31000=i at z;have hb:∀ j,j<i->(Co.steps j c).ph≠0:=fun j hj=>of_decide_eq_false (z.1 j hj);have h1:=Co.oO h i hb;have h2:=Co.aMs h;exact ⟨i,of_decide_eq_true (z.2 (by omega)),hb⟩
 have he:c.aGm=Classical.choose y:=by unfold Co.aGm;rw [dif_pos y]
 obtain ⟨e,d⟩:=Classical.choose_spec y;rw [<-he] at e d;have h1:=Co.oO h _ d;have h2:=Co.aMs h;exact ⟨e,d,by omega⟩
theorem Co.aFh (h:c.Okc) {i:Nat} (hi:∀ j,j<i->(Co.steps j c).ph≠0) (e:(Co.steps i c).ph=0):i=c.aGm:=by
 obtain ⟨z,d,_⟩:=Co.zY h;rcases Nat.lt_trichotomy i c.aGm with y|y|y
 ·exact absurd e (d i y)
 ·exact y
 exact absurd z (hi _ y)
theorem Co.aCh (h:c.Okc) (k:Nat):0<=Co.costs k c/\Co.costs k c<=60*(k:Int):=by
 induction k with
 | zero=>exact ⟨Int.le_refl 0,by show (0:Int)<=60*0;decide⟩
 | succ k z=>
  show 0<=Co.costs k c+(Co.steps k c).step.1/\Co.costs k c+(Co.steps k c).step.1<=60*((k+1:Nat):Int)
  by_cases y:(Co.steps k c).ph=0
  ·rw [Co.nK y];show 0<=Co.costs k c+0/\Co.costs k c+0<=_;omega
  have:=(h.steps k).cost y;omega
theorem Co.Ok.finish (h:c.Ok):c.finish.2.2.2.Ok/\c.finish.2.2.2.ph=0:=by
 unfold Co.finish;split
 ·rename_i e;exact ⟨h,e⟩
 exact ⟨h.steps _,(Co.zY h.k).1⟩
theorem Co.Okc.pay (h:c.Okc) (hs:¬ c.stops):c.pay.Okc:=by
 have z:c.ph≠0:=fun e=>hs (.inl e);have hc:=h.cost z;have d:c.step.1<=c.cr:=by
  rcases Int.lt_or_le c.cr c.step.1 with y|y
  ·exact absurd (.inr y) hs
  exact y
 exact (h.aAf z (n:=c.cr - c.step.1) (by omega)).step
theorem Co.aNO (c:Co):c.pay.cr=c.cr - c.step.1\/(c.pay.ph=0/\c.pay.cr=0):=Co.aIU ({ c with cr:=c.cr - c.step.1 }:Co)
def Co.nu (c:Co):Nat:=if c.ph=0 then 0 else c.cr.toNat+1
theorem Co.aQi (h:c.Okc) (hs:¬ c.stops):c.pay.nu<c.nu:=by
 have z:c.ph≠0:=fun e=>hs (.inl e);have hc:=h.cost z;have h0:c.step.1<=c.cr:=by
  rcases Int.lt_or_le c.cr c.step.1 with y|y
  ·exact absurd (.inr y) hs
  exact y
 unfold Co.nu;rw [if_neg z];split
 ·omega
 rename_i d;rcases c.aNO with y|y
 ·rw [y];omega
 exact absurd y.1 d
theorem Co.uD (h:c.Okc) (k:Nat) (d:∀ j,j<k->¬ (Co.pays j c).stops):(Co.pays k c).Okc/\(Co.pays k c).nu+k<=c.nu/\(Co.pays k c).cr<=max c.cr 0:=by
 induction k with
 | zero=>exact ⟨h,Nat.le_refl _,by show c.cr<=_;omega⟩
 | succ k ih=>
  obtain ⟨y,h2,h3⟩:=ih (fun j hj=>d j (by omega));have z:=d k (by omega);have h4:=Co.aQi y z;refine ⟨y.pay z,by show (Co.pays k c).pay.nu+(k+1)<=_;omega,?_⟩;show (Co.pays k c).pay.cr<=_;have hp:(Co.pays k c).ph≠0:=fun e=>z (.inl e);have hc:=y.cost hp;rcases (Co.pays k c).aNO with h5|h5<;>omega
theorem Co.fO (h:c.Okc):(Co.pays c.gives c).stops/\(∀ j,j<c.gives->¬ (Co.pays j c).stops)/\c.gives<=c.nu:=by
 classical
 have y:∃ i,(Co.pays i c).stops/\∀ j,j<i->¬ (Co.pays j c).stops:=by
  have z:=dU (fun i=>decide ((Co.pays i c).stops)) (c.nu+1);generalize fst (fun i=>decide ((Co.pays i c).stops)) (c.nu+1)=i at z;have hb:∀ j,j<i->¬ (Co.pays j c).stops:=fun j hj=>of_decide_eq_false (z.1 j hj);have h1:=(Co.uD h i hb).2.1;exact ⟨i,of_decide_eq_true (z.2 (by omega)),hb⟩
 have he:c.gives=Classical.choose y:=by unfold Co.gives;rw [dif_pos y]
 obtain ⟨e,d⟩:=Classical.choose_spec y;rw [<-he] at e d;have h1:=(Co.uD h _ d).2.1;exact ⟨e,d,by omega⟩
theorem Co.xA (h:c.Okc) {i:Nat} (hi:∀ j,j<i->¬ (Co.pays j c).stops) (e:(Co.pays i c).stops):i=c.gives:=by
 obtain ⟨z,d,_⟩:=Co.fO h;rcases Nat.lt_trichotomy i c.gives with y|y|y
 ·exact absurd e (d i y)
 ·exact y
 exact absurd z (hi _ y)
theorem Co.Okc.more (h:c.Okc) (y:c.ph≠0) {n:Int} (z:0<=n):(c.more n).Okc:=h.aAf y (by have:=h.cr1;omega)
theorem Co.Ok.give (h:c.Ok) {n:Int} (hn:0<=n):(c.give n).2.Ok:=by
 unfold Co.give;split
 ·exact h
 rename_i hp;have d:=h.k.more hp hn;obtain ⟨y,h3,_⟩:=Co.fO d;have z:=(Co.uD d _ h3).1;refine ⟨z,?_⟩;show (Co.pays (c.more n).gives (c.more n)).cr<=60;rcases y with y|y
 ·have:=z.c0 y;omega
 by_cases e:(Co.pays (c.more n).gives (c.more n)).ph=0
 ·have:=z.c0 e;omega
 have:=(z.cost e).2.1;omega
theorem Co.Ok.fZ (h:c.Ok) (n:Int):(c.fZ n).2.2.Ok:=by
 unfold Co.fZ;split
 ·exact h
 exact h.give (by omega)
theorem dM:c.bar=true↔c.ph=1\/c.ph=2:=by unfold Co.bar;exact decide_eq_true_iff
theorem aFU {m:Mk} {r:Int×Int×Hp}:(m.made r).2.2.M=r.2.2:=by unfold Mk.made;simp only;split<;>rfl
theorem Co.Ok.newObj (h:c.Ok) (k:Int) (l:List Bool):(c.newObj k l).2.2.Ok:=by
 unfold Co.newObj;split
 ·rename_i hb;have y:=dM.1 hb;exact ⟨h.k.marker y ((h.k.mo y).aH k l) (fun x hx=>by show ((c.m.made (c.m.M.aH k l)).2.2.M.ob x).isSome=true;rw [aFU,(c.m.M.iJ k l).old x hx];exact hx) aJS,h.cr2⟩
 rename_i hb;exact ⟨h.k.heap (fun e=>hb (dM.2 e)) (h.k.hf.aH k l) (fun x hx=>by rw [(c.m.M.iJ k l).old x hx];exact hx),h.cr2⟩
theorem Co.Ok.dW (h:c.Ok) (k a n:Int):(c.dW k a n).2.2.Ok:=by
 unfold Co.dW;split
 ·rename_i hb;have y:=dM.1 hb;exact ⟨h.k.marker y ((h.k.mo y).aG k a n) (fun x hx=>by show ((c.m.made (c.m.M.aG k a n)).2.2.M.ob x).isSome=true;rw [aFU,(c.m.M.jJ k a n).old x hx];exact hx) aJS,h.cr2⟩
 rename_i hb;exact ⟨h.k.heap (fun e=>hb (dM.2 e)) (h.k.hf.aG k a n) (fun x hx=>by rw [(c.m.M.jJ k a n).old x hx];exact hx),h.cr2⟩
theorem Co.Ok.aH (h:c.Ok) (k:Int) (l:List Bool):(c.aH k l).2.2.Ok:=by
 unfold Co.aH;split
 ·exact h
 exact (h.give h.k.rt.1).newObj k l
theorem vJ {n:Int} (y:0<=n) (h:n<=48):1<=aBp n/\aBp n<=7:=by
 unfold aBp;split
 ·rw [Int.tdiv_eq_ediv_of_nonneg (by omega)];omega
 omega
theorem Co.Ok.aG (h:c.Ok) (k a n:Int):(c.aG k a n).2.2.Ok:=by
 unfold Co.aG;split
 ·exact h
 rename_i z;have y:=vJ (n:=n) (by omega) (by omega);exact (h.give (Int.mul_nonneg h.k.rt.1 (by omega))).dW k a n
theorem aIS {m:Mk} (a s v:Int):(m.store a s v).2.M=(m.M.set a s v).2:=by
 unfold Mk.store;simp only;split
 ·rw [Mk.lZ,Mk.lZ];rfl
 rfl
theorem Co.Ok.store (h:c.Ok) (a s v:Int):(c.store a s v).2.Ok:=by
 unfold Co.store;split
 ·exact h
 split
 ·rename_i hb;have y:=dM.1 hb;exact ⟨h.k.marker y ((h.k.mo y).store a s v) (fun x hx=>by rw [aIS,Hp.oP];exact hx) (aLR a s v),h.cr2⟩
 rename_i hb;exact ⟨h.k.heap (fun e=>hb (dM.2 e)) (h.k.hf.set a s v) (fun x hx=>by rw [Hp.oP];exact hx),h.cr2⟩
theorem aOa {t:Tb} {m:Mk} (k x g:Int):(t.add m k x g).2.2.ph=t.ph:=by
 unfold Tb.add;split
 ·rfl
 split
 ·rfl
 split
 ·rfl
 split<;>rfl
theorem aNE {t:Tb} {m:Mk} (k x g:Int) {i:Nat} (y:i<(t.add m k x g).2.2.ents.length):(i<t.ents.length/\eAt (t.add m k x g).2.2.ents i=eAt t.ents i)\/((eAt (t.add m k x g).2.2.ents i).tgt=x/\(m.M.ob x).isSome=true):=by
 unfold Tb.add at y ⊢;split at y
 ·rename_i h;rw [if_pos h];exact .inl ⟨y,rfl⟩
 rename_i h1;rw [if_neg h1];split at y
 ·rename_i h;rw [if_pos h];exact .inl ⟨y,rfl⟩
 rename_i h2;rw [if_neg h2];split at y
 ·rename_i h;rw [if_pos h];exact .inl ⟨y,rfl⟩
 rename_i d;rw [if_neg d];split at y
 ·rename_i h;rw [if_pos h];exact .inl ⟨y,rfl⟩
 rename_i h4;rw [if_neg h4];have z:i<t.ents.length+1:=by
  have:i<(t.ents ++ [(⟨k,x,g⟩:En)]).length:=y;simpa using this
 show (_/\eAt (t.ents ++ [⟨k,x,g⟩]) i=_)\/((eAt (t.ents ++ [⟨k,x,g⟩]) i).tgt=x/\_);rw [aCe _ _ z];split
 ·refine .inr ⟨rfl,?_⟩
  cases e:(m.M.ob x).isSome
  ·exact absurd e d
  rfl
 exact .inl ⟨by omega,rfl⟩
theorem Co.Ok.refer (h:c.Ok) (k x g:Int):(c.refer k x g).2.2.Ok:=by
 unfold Co.refer;split
 ·exact h
 rename_i hp;obtain ⟨y,hy⟩:∃ y,y=if c.hid x then 0 else x:=⟨_,rfl⟩;rw [<-hy];have z:=h.k;refine ⟨⟨z.hf,z.mo,z.nl,z.tg.add k y g,fun e=>by show (c.t.add c.m k y g).2.2.ph=0;rw [aOa];exact z.t0 e,z.p4,z.sw,z.su,z.sn,fun i hi hm=>?_,fun e=>absurd e hp,fun e=>absurd e hp,z.cr1,z.c0,z.rt,z.pg,z.mv⟩,h.cr2⟩;rcases aNE k y g hi with ⟨h1,h2⟩|⟨h1,h2⟩
 ·have d:(eAt (c.t.add c.m k y g).2.2.ents i).tgt∈c.sw:=hm;rw [h2] at d;exact z.st i h1 d
 have d:(eAt (c.t.add c.m k y g).2.2.ents i).tgt∈c.sw:=hm;rw [h1] at d;have h0:=(z.hf.ok.inR h2).1;unfold Co.hid at hy;rw [if_neg hp] at hy
 by_cases e:x∈c.sw
 ·rw [decide_eq_true e] at hy;simp at hy;omega
 rw [decide_eq_false e] at hy;simp at hy;rw [hy] at d;exact e d
theorem Co.Ok.take (h:c.Ok):c.take.2.2.Ok:=by
 have y:=h.k;have he:c.t.take.2.2.ents=c.t.ents/\c.t.take.2.2.ph=c.t.ph/\c.t.take.2.2.nx=c.t.nx/\c.t.take.2.2.fd=c.t.fd:=by
  unfold Tb.take;split<;>exact ⟨rfl,rfl,rfl,rfl⟩
 obtain ⟨e1,e2,e3,e4⟩:=he;refine ⟨⟨y.hf,y.mo,y.nl,y.tg.take,fun e=>by show c.t.take.2.2.ph=0;rw [e2];exact y.t0 e,y.p4,y.sw,y.su,y.sn,fun i hi=>?_,fun e h2=>?_,fun e h2=>?_,y.cr1,y.c0,y.rt,y.pg,y.mv⟩,h.cr2⟩
 ·have z:i<c.t.take.2.2.ents.length:=hi;show (eAt c.t.take.2.2.ents i).tgt∉c.sw;rw [e1] at z ⊢;exact y.st i z
 ·have d:c.t.take.2.2.ph≠0:=h2;rw [e2] at d;refine (y.pa e d).move (t':=c.t.take.2.2) e1 (fun i hi=>by rw [e2,e3]) (fun e5 i hi hkd hf=>?_);rw [e4] at hf;rw [e2] at e5;exact (y.pa e d).f e5 i hi hkd hf
 have d:c.t.take.2.2.ph=0:=h2;rw [e2] at d;intro i hi;have z:i<c.t.take.2.2.ents.length:=hi;show (eAt c.t.take.2.2.ents i).fine c.m;rw [e1] at z ⊢;exact y.al e d i z
theorem Co.Ok.target (h:c.Ok) (i:Int):(c.target i).2.2.Ok:=by
 unfold Co.target;split
 ·exact h
 split
 ·exact h
 show (if c.ph=1 then _ else _:Co).Ok;split
 ·rename_i y;exact ⟨h.k.marker (.inl y) ((h.k.mo (.inl y)).bG _) (fun x hx=>by rw [Mk.lZ];exact hx) wP,h.cr2⟩
 exact h
theorem Co.Ok.begin (h:c.Ok) (l:List Int):(c.begin l).2.Ok:=by
 unfold Co.begin;split
 ·exact h
 split
 ·exact h
 split
 ·exact h
 rename_i h1 d h3;have y:=h.k;have h0:c.ph=0:=Classical.not_not.1 d;have ht:=y.t0 (by omega);have z:((Mk.start c.m.M).aY l).M=c.m.M:=Mk.jP _ _;refine ⟨⟨by show ((Mk.start c.m.M).aY l).M.OkF;rw [z];exact y.hf,fun _=>Mk.Ok.aY _ _ (Mk.Ok.start y.hf),fun e=>absurd rfl e,y.tg.marker (fun x hx=>by show (((Mk.start c.m.M).aY l).M.ob x).isSome=true;rw [z];exact hx),fun _=>ht,by show 1<=4;omega,fun _=>y.sw (by omega),fun x hx=>by show (((Mk.start c.m.M).aY l).M.ob x).isSome=true;rw [z];exact y.su x hx,y.sn,y.st,fun e=>by (cases e),fun e=>by (cases e),by show -193<=-1 - (l.length:Int);omega,fun e=>by (cases e),y.rt,y.pg,Nat.zero_le _⟩,by show -1 - (l.length:Int)<=60;omega⟩
theorem Co.Ok.new {n:Nat} {r:Int} (z:1<=n) (y:n<=24) (d:0<=r/\r<=100):(Co.new n r).Ok:=
 ⟨⟨Hp.OkF.new z y,fun e=>by rcases e with e|e<;>(cases e),fun _ _=>rfl,Tb.Good.new,fun _=>rfl,Nat.zero_le _,fun _=>rfl,fun x hx=>by (cases hx),List.nodup_nil,fun i hi=>absurd hi (Nat.not_lt_zero _),fun e=>by (cases e),fun e=>by (cases e),by show (-193:Int)<=0;decide,fun _=>rfl,d,⟨z,y⟩,Nat.zero_le _⟩,by show (0:Int)<=60;decide⟩
end
def aRY (o:Option Th):List Int:=match o with|none=>[]|some o=>o.blocks
def Hp.blks (M:Hp):Nat->List Int
 | 0=>[]
 | k+1=>M.blks k ++ aRY (M.ob ((k:Int)+1))
section
variable {M:Hp} {P:Pl}
theorem aCm {k:Nat} {a:Int}:a∈M.blks k↔∃ j:Nat,j<k/\∃ o,M.ob ((j:Int)+1)=some o/\a∈o.blocks:=by
 induction k with
 | zero=>simp [Hp.blks]
 | succ k d=>
  unfold Hp.blks;rw [List.mem_append,d];constructor
  ·rintro (⟨j,z,h⟩|h)
   ·exact ⟨j,by omega,h⟩
   cases e:M.ob ((k:Int)+1) with
   | none=>rw [e] at h;cases h
   | some o=>rw [e] at h;exact ⟨k,by omega,o,e,h⟩
  rintro ⟨j,z,o,y,h⟩
  by_cases e:j=k
  ·subst e;right;rw [y];exact h
  left;exact ⟨j,by omega,o,y,h⟩
theorem aNB (k:Nat):(M.blks k).length=iQ (fun j=>aEk (M.ob ((j:Int)+1))) k:=by
 induction k with
 | zero=>rfl
 | succ k y=>
  unfold Hp.blks iQ;rw [List.length_append,y];congr 1
  cases M.ob ((k:Int)+1)<;>rfl
theorem aBS {l:List Int} {a:Int}:a∈l↔∃ m,m<l.length/\gI l m=a:=by
 rw [List.mem_iff_getElem];constructor
 ·rintro ⟨m,y,e⟩;exact ⟨m,y,by rw [aBh y];exact e⟩
 rintro ⟨m,y,e⟩;exact ⟨m,y,by rw [aBh y] at e;exact e⟩
theorem aIr (hk:M.Ok) (k:Nat):(M.blks k).Nodup:=by
 induction k with
 | zero=>exact List.nodup_nil
 | succ k ih=>
  unfold Hp.blks;rw [List.nodup_append];refine ⟨ih,?_,fun a ha b hb e=>?_⟩
  ·cases e:M.ob ((k:Int)+1) with
   | none=>exact List.nodup_nil
   | some o=>
    show o.blocks.Nodup;rw [List.nodup_iff_pairwise_ne,List.pairwise_iff_getElem];intro i j d z h0 y;have:=hk.dj _ o e _ o e i d j z (by rw [aBh d,aBh z];exact y);omega
  subst e;obtain ⟨j,z,o,ho,h1⟩:=aCm.1 ha
  cases y:M.ob ((k:Int)+1) with
  | none=>rw [y] at hb;cases hb
  | some o2=>
   rw [y] at hb;obtain ⟨m1,h2,h3⟩:=aBS.1 h1;obtain ⟨m2,h4,h5⟩:=aBS.1 (show a∈o2.blocks from hb);have:=(hk.dj _ o ho _ o2 y m1 h2 m2 h4 (h3.trans h5.symm)).1;omega
theorem Hp.OkF.aHt (y:M.OkF) {x:Nat} (hx:x<16*M.P.n) (hl:M.P.oD x=true):∃ h o,M.ob h=some o/\(x:Int)∈o.blocks:=by
 have h1:(M.P.lives (16*M.P.n)).length=(M.blks 192).length:=by
  rw [Pl.aJU,Pl.zB y.ok.p,aNB];exact y.full
 have z:∀ a∈M.blks 192,a∈(M.P.lives (16*M.P.n)).map (fun (n:Nat)=>(n:Int)):=fun a ha=>by
  obtain ⟨j,hj,o,e,h2⟩:=aCm.1 ha;obtain ⟨m,d,rfl⟩:=aBS.1 h2;have hb:=y.ok.bk _ o e m d;have hc:=y.ok.isC e (m:=m) d;have h4:=hb.range hc;have h5:=hb.begin hc;refine List.mem_map.2 ⟨(gI o.blocks m).toNat,Pl.aDn.2 ⟨by have:=hc.sz;omega,?_⟩,by omega⟩;have h6:((gI o.blocks m).toNat:Int)=gI o.blocks m:=by omega
  unfold Pl.oD;rw [h6,h5];simp
 have h2:=(lH (aIr y.ok 192) z).2 (by rw [List.length_map,h1];exact Nat.le_refl _);have d:=h2 (x:Int) (List.mem_map.2 ⟨x,Pl.aDn.2 ⟨hx,hl⟩,rfl⟩);obtain ⟨j,hj,o,e,h4⟩:=aCm.1 d;exact ⟨_,o,e,h4⟩
theorem Hp.OkF.aHm (hk:M.OkF) (he:M.P.move.2.2.1=0):∃ h o,M.ob h=some o/\o.place M.P.move.1<o.blocks.length:=by
 cases hp:M.P.pair with
 | none=>rw [Pl.dF hp] at he;cases he
 | some x=>
  obtain ⟨i,j⟩:=x;have z:=Pl.eH hp;have h3:(M.P.pg i).cls≠-1:=by rcases z.c with e|e|e<;>omega
  have ht:=(hk.ok.p i z.hi).top h3;have h4:=z.c.blk ht.1;have h0:M.P.move.1=((16*i+(M.P.pg i).top (M.P.pg i).cls*bsz (M.P.pg i).cls:Nat):Int):=by rw [Pl.dK hp]
  have hb:Blk M.P (M.P.pg i).cls M.P.move.1 (fun y=>(M.P.pg i).cell ((M.P.pg i).top (M.P.pg i).cls*bsz (M.P.pg i).cls+y)):=⟨i,(M.P.pg i).top (M.P.pg i).cls,h0,⟨z.hi,rfl,ht.1,ht.2,fun _ _=>rfl⟩⟩;have d:=hb.begin z.c;rw [h0] at d ⊢;have hi:=z.hi;have hs:=z.c.sz;obtain ⟨h,o,ho,hm⟩:=hk.aHt (x:=16*i+(M.P.pg i).top (M.P.pg i).cls*bsz (M.P.pg i).cls) (by omega) (by unfold Pl.oD;rw [d];simp);obtain ⟨m,h1,h2⟩:=aBS.1 hm;exact ⟨h,o,ho,Th.aBN h1 h2⟩
theorem aCk (P:Pl) (a n i:Int):(P.setCell a n).2.class i=P.class i:=by
 unfold Pl.setCell;split
 ·unfold Pl.class;have y:(P.set (a.toNat / 16) { P.pg (a.toNat / 16) with cell:=up (P.pg (a.toNat / 16)).cell (a.toNat % 16) n }).n=P.n:=rfl
  by_cases h:i<0\/(P.n:Int)<=i
  ·rw [if_pos h,y,if_pos h]
  rw [if_neg h,y,if_neg h];show ((up P.pg (a.toNat / 16) _ i.toNat).cls,(0:Int))=_
  by_cases e:i.toNat=a.toNat / 16
  ·rw [e,bP]
  rw [aV _ _ e]
 rfl
theorem oZ (hk:P.ok) (he:P.move.2.2.1=0):(P.move.2.2.2.class (P.move.2.1.tdiv 16)).1=(P.class (P.move.1.tdiv 16)).1/\0<=P.move.1/\0<=P.move.2.1/\P.move.1<16*P.n/\P.move.2.1<16*P.n/\P.move.2.2.2.n=P.n:=by
 cases z:P.pair with
 | none=>rw [Pl.dF z] at he;cases he
 | some x=>
  obtain ⟨i,j⟩:=x;have y:=Pl.eH z;have d:(P.pg i).cls≠-1:=by rcases y.c with e|e|e<;>omega
  have ht:=((hk i y.hi).top d).1;have h1:=(y.c.blk ht).1;have hg:=((hk j y.hj).gap (c:=(P.pg i).cls) y.c y.pj).1;have h0:=(y.c.blk hg).1;have hs:=y.c.sz;have hi:=y.hi;have hj:=y.hj;rw [Pl.dK z];rw [y.same];simp only;have d1:(((16*i+(P.pg i).top (P.pg i).cls*bsz (P.pg i).cls:Nat):Int)).tdiv 16=(i:Int):=by
   rw [Int.tdiv_eq_ediv_of_nonneg (by omega)];omega
  have d2:(((16*j+(P.pg j).gap (P.pg i).cls*bsz (P.pg i).cls:Nat):Int)).tdiv 16=(j:Int):=by
   rw [Int.tdiv_eq_ediv_of_nonneg (by omega)];omega
  refine ⟨?_,by omega,by omega,by omega,by omega,rfl⟩;rw [d1,d2];unfold Pl.class;have hn:(P.moved i j).n=P.n:=rfl;rw [hn,if_neg (by omega),if_neg (by omega),Int.toNat_natCast,Int.toNat_natCast];show ((P.moved i j).pg j).cls=(P.pg i).cls;unfold Pl.moved;simp only;show (up (up P.pg j _) i _ j).cls=_;rw [aV _ _ (fun e=>y.ne e.symm),bP];rfl
theorem Hp.OkF.rW (y:M.OkF) (z:M.P.move.2.2.1=0):∃ h o,M.ob h=some o/\o.place M.P.move.1<o.blocks.length/\M.move=(h,0,Hp.eX M.P.move.2.2.2 M.ob h o (o.place M.P.move.1) M.P.move.2.1)/\M.move.2.2.ob h=some (o.moved (o.place M.P.move.1) M.P.move.2.1)/\M.P.move.2.1≠gI o.blocks (o.place M.P.move.1)/\(M.move.2.2.P.class (M.P.move.2.1.tdiv 16)).1=(M.P.class (M.P.move.1.tdiv 16)).1:=by
 obtain ⟨h,o,d,e⟩:=y.aHm z;have hm:=uH y.ok z d e;refine ⟨h,o,d,e,hm,?_,?_,?_⟩
 ·rw [hm];show eU M.ob h _ h=_;rw [aZ]
 ·have hc:=y.ok.isC d (m:=o.place M.P.move.1) e;have hb:=y.ok.bk h o d _ e;exact hb.yT y.ok.p hc z
 rw [hm];show ((if o.place M.P.move.1=0 then M.P.move.2.2.2 else _:Pl).class _).1=_;split
 ·exact (oZ y.ok.p z).1
 rw [aCk];exact (oZ y.ok.p z).1
end
end Go.Proofs.YthflghdaejbdkaaGreat
namespace Go.Proofs.YthflghdaejbdkaaGreat
open _root_.Go.Proofs.Tryz (prog)
open Go.RowKit Go.Maps
set_option maxHeartbeats 3200000
set_option maxRecDepth 100000
set_option linter.unusedVariables false
def aAs (w:World) (z:Nat) (y:Int->Int):Prop:=
 ∃ D:DataW Unit,w.ownsMap prog 3 (plainElem (H:=Unit) prog 3) z 192 D/\(∀ k,wfI k->Maps.has D (.int .i64 k)=true->1<=k/\k<=192)/\∀ k,wfI k->D.atKey (.int .i64 k) (.lit (.int .i64 0))=.lit (.int .i64 (y k))
theorem aBw (w:World):(zeroValue 3).run prog w=.ok (.int .i64 0) w:=by kernel_rfl
theorem aBP {w:World} {mb n:Nat} {D:DataW Unit} (hD:w.ownsMap prog 3 (plainElem (H:=Unit) prog 3) mb n D) (hs:∀ k,wfI k->Maps.has D (.int .i64 k)=true->1<=k/\k<=192):w.ownsMap prog 3 (plainElem (H:=Unit) prog 3) mb 192 D:=by
 have c:=hD.canon iE;have h1:=(lH (qH c) (l2:=(List.range 192).map fun (i:Nat)=>Lit.int .i64 ((i:Int)+1)) (fun x hx=>by
  have d:=(lM c x).1 hx;obtain ⟨z,rfl,hz⟩:=qE hD d;have h2:=hs z hz d;exact List.mem_map.2 ⟨z.toNat - 1,by simp;omega,by congr 1;omega⟩)).1
 rw [sF c] at h1;simp only [List.length_map,List.length_range] at h1;obtain ⟨e,y,hb,F,hn,rfl⟩:=hD;have e1:Maps.size (DataW.map ((e.toList.map (WideElems.rg prog 3 (plainElem (H:=Unit) prog 3))).foldr DataW.insert []))=e.size:=by simp [Maps.size,length_sorted]
 exact ⟨e,y,hb,F,by omega,rfl⟩
section
variable {w w':World} {mb:Nat} {col:Int->Int}
theorem aAs.lt (h:aAs w mb col):mb<w.heap.size:=by obtain ⟨D,h,_⟩:=h;exact h.lt
theorem aAs.only {S:Nat->Prop} (h:aAs w mb col) (hg:aI S w w') (hS:¬ S mb):aAs w' mb col:=by
 obtain ⟨D,d,hf⟩:=h;have z:=d.lt;obtain ⟨e,y,hb,r⟩:=d;exact ⟨D,⟨e,y,(hg.block mb z hS).trans hb,r⟩,hf⟩
theorem aAs.look (h:aAs w mb col) {k:Int} (z:wfI k):(Instr.lookup 127 (.map (some mb)) (.int .i64 k) false).run prog w=.ok (.int .i64 (col k)) w:=by
 obtain ⟨D,hD,_,hf⟩:=h;obtain ⟨c,d,e,_⟩:=hD.lookup_int iE Tryz.underlying127 Tryz.underlying3 (aBw w) (aLt z);have y:=hf k z;rw [e] at y;simp at y;rw [d,y]
theorem aAs.made (w:World):aAs (w.alloc (.map #[] 0)) w.heap.size (fun _=>0):=
 ⟨.map [],(World.ownsMap_made _ _ _ _).mono (Nat.zero_le _),fun k _ h=>(by cases h),fun k _=>rfl⟩
theorem aAs.store (h:aAs w mb col) {k:Int} (hk:1<=k/\k<=192) {v:Int} (hv:wfI v):∃ w',(Instr.mapUpdate 127 (.map (some mb)) (.int .i64 k) (.int .i64 v)).run prog w=.ok () w'/\aAs w' mb (jS col k v)/\w.grownBy w' (some mb):=by
 obtain ⟨D,hD,hr,hf⟩:=h;have z:wfI k:=dI (by omega);obtain ⟨w',h1,h2,h3⟩:=hD.update iE Tryz.underlying127 (by decide) (aLt z) (plainElem_int Tryz.underlying3 hv);have hm:=hD.isMap;have y:∀ j,wfI j->Maps.has (D.put (.int .i64 k) (.lit (.int .i64 v))) (.int .i64 j)=true->1<=j/\j<=192:=fun j d h7=>by
  by_cases e:j=k
  ·rw [e];exact hk
  rw [Maps.has_put_other (pW e)] at h7;exact hr j d h7
 refine ⟨w',h1,⟨_,aBP h2 y,y,fun j d=>?_⟩,h3⟩
 by_cases e:j=k
 ·rw [e,cO];exact Maps.atKey_put_same hm (zD k z) _ _
 rw [bM _ _ e,Maps.atKey_put_other (pW e)];exact hf j d
end
theorem Fam.turn {w0 w w':World} {l:List Asn} {A A':Asn} (h:Fam w0 w l) (i:Nat) (hi:l[i]?=some A) (hc:∀ S,A.holds w S->∃ S',A'.holds w' S'/\(∀ k,S' k->S k\/w.heap.size<=k)/\aI S w w'):Fam w0 w' (l.set i A'):=by
 obtain ⟨h0,S,h1,h2,h3⟩:=h;have y:=(List.getElem?_eq_some_iff.1 hi).1;obtain ⟨S',hA,hS,ho⟩:=hc (S i) (h1 i A hi);refine ⟨⟨ho.os.trans h0.os,ho.tape.trans h0.tape,ho.output.trans h0.output,Nat.le_trans h0.size ho.size,fun k d hn=>by
  rw [ho.block k (Nat.lt_of_lt_of_le d h0.size) (fun x=>by have:=h3 i y k x;omega)];exact h0.block k d hn⟩,fun j=>if j=i then S' else S j,fun j B hj=>?_,fun a b ha hb hab k=>?_,fun j hj k d=>?_⟩
 ·try simp only
  by_cases e:j=i
  ·rw [if_pos e];rw [e,List.getElem?_set_self y] at hj
   cases hj
   exact hA
  rw [if_neg e];rw [List.getElem?_set_ne (fun x=>e x.symm)] at hj;exact B.keep (h1 j B hj) ho (h2 i j y (List.getElem?_eq_some_iff.1 hj).1 (fun x=>e x.symm))
 ·rw [List.length_set] at ha hb
  try simp only
  intro h4 h5
  by_cases e1:a=i
  ·by_cases e2:b=i
   ·exact hab (e1.trans e2.symm)
   rw [if_pos e1] at h4;rw [if_neg e2] at h5;rcases hS k h4 with z|z
   ·exact h2 i b y hb (fun x=>e2 x.symm) k z h5
   have:=(l[b]'hb).lt (h1 b _ (List.getElem?_eq_getElem hb)) h5;omega
  by_cases e2:b=i
  ·rw [if_neg e1] at h4;rw [if_pos e2] at h5;rcases hS k h5 with z|z
   ·exact h2 i a y ha (fun x=>e1 x.symm) k z h4
   have:=(l[a]'ha).lt (h1 a _ (List.getElem?_eq_getElem ha)) h4;omega
  rw [if_neg e1] at h4;rw [if_neg e2] at h5;exact h2 a b ha hb hab k h4 h5
 rw [List.length_set] at hj
 try simp only at d
 by_cases e:j=i
 ·rw [if_pos e] at d;rcases hS k d with z|z
  ·exact h3 i y k z
  have:=h0.size;omega
 rw [if_neg e] at d;exact h3 j hj k d
structure aFv (w:World) (p hb mb:Nat) (v:Value) (col:Int->Int) (list:List Int):Prop where
 row:∃ T,Row w p T [.pointer (some ⟨hb,0,none⟩),.map (some mb),v]
 map:aAs w mb col
 ints:aN w 0 v list
 ne:p≠mb
 ne2:∀ g,v.ownBlock=some g->g≠p/\g≠mb
def MkA (p hb:Nat) (h0:Int->Int) (d:List Int):Asn:=
 ⟨fun w S=>∃ y v,aFv w p hb y v h0 d/\∀ k,S k↔(k=p\/k=y\/v.ownBlock=some k),
  fun ⟨y,v,h,z⟩ ho hd=>⟨y,v,⟨h.row.imp fun T x=>ho.row x (fun x=>hd p x ((z p).2 (.inl rfl))),h.map.only ho (fun x=>hd y x ((z y).2 (.inr (.inl rfl)))),h.ints.dB ho (fun k hk x=>hd k x ((z k).2 (.inr (.inr hk)))),h.ne,h.ne2⟩,z⟩,
  fun ⟨y,v,h,z⟩ hk=>by
   rcases (z _).1 hk with e|e|e
   ·obtain ⟨T,hr⟩:=h.row;rw [e];exact hr.lt
   ·rw [e];exact h.map.lt
   exact (h.ints.own _ e).2⟩
structure aEe (w:World) (r q:Nat) (tg tc:Nat) (v:Value) (T:List Int) (col:Int->Int) (list:List Int):Prop where
 row:∃ U,Row w r U [.pointer (some ⟨q,0,none⟩),.slice (some ⟨tg,0,none⟩) 193 tc,v]
 tint:aN w 0 (.slice (some ⟨tg,0,none⟩) 193 tc) T
 tl:T.length=193
 tv:∀ k:Nat,k<193->gI T k=col k
 ints:aN w 0 v list
 ne:r≠tg
 ne2:∀ g,v.ownBlock=some g->g≠r/\g≠tg
def GkA (r q:Nat) (h1:Int->Int) (h0:List Int):Asn:=
 ⟨fun w S=>∃ d tc v T,aEe w r q d tc v T h1 h0/\∀ k,S k↔(k=r\/k=d\/v.ownBlock=some k),
  fun ⟨d,tc,v,T,h,y⟩ ho hd=>⟨d,tc,v,T,⟨h.row.imp fun U x=>ho.row x (fun x=>hd r x ((y r).2 (.inl rfl))),h.tint.dB ho (fun k z x=>hd k x ((y k).2 (.inr (.inl (by cases z;rfl))))),h.tl,h.tv,h.ints.dB ho (fun k z x=>hd k x ((y k).2 (.inr (.inr z)))),h.ne,h.ne2⟩,y⟩,
  fun ⟨d,tc,v,T,h,y⟩ z=>by
   rcases (y _).1 z with e|e|e
   ·obtain ⟨U,hr⟩:=h.row;rw [e];exact hr.lt
   ·exact (h.tint.own _ (by rw [e];rfl)).2
   exact (h.ints.own _ e).2⟩
def ML (l:List Asn) (i j hb p:Nat) (m:Mk):List Asn:=(l.set i (PH hb m.M)).set j (MkA p hb m.col m.list)
def RL (l:List Asn) (i j q r:Nat) (m:Mk):List Asn:=(l.set i (GH q m.M)).set j (GkA r q m.col m.list)
structure gZ (l:List Asn) (i j:Nat):Prop where
 hi:i<l.length
 hj:j<l.length
 ne:i≠j
section
variable {l:List Asn} {i j hb p q r:Nat} {m:Mk}
theorem ML.heap (h:gZ l i j):(ML l i j hb p m)[i]?=some (PH hb m.M):=by
 unfold ML;rw [List.getElem?_set_ne (Ne.symm h.ne),List.getElem?_set_self h.hi]
theorem ML.self (h:gZ l i j):(ML l i j hb p m)[j]?=some (MkA p hb m.col m.list):=by
 unfold ML;rw [List.getElem?_set_self (by rw [List.length_set];exact h.hj)]
theorem ML.put (h:gZ l i j) (M:Hp):(ML l i j hb p m).set i (PH hb M)=ML l i j hb p (m.put M):=by
 unfold ML;rw [List.set_comm _ _ (Ne.symm h.ne),List.set_set];rfl
theorem ML.turn (c:Int->Int) (t:List Int):(ML l i j hb p m).set j (MkA p hb c t)=ML l i j hb p ⟨m.M,c,t⟩:=by
 unfold ML;rw [List.set_set]
theorem RL.heap (h:gZ l i j):(RL l i j q r m)[i]?=some (GH q m.M):=by
 unfold RL;rw [List.getElem?_set_ne (Ne.symm h.ne),List.getElem?_set_self h.hi]
theorem RL.self (h:gZ l i j):(RL l i j q r m)[j]?=some (GkA r q m.col m.list):=by
 unfold RL;rw [List.getElem?_set_self (by rw [List.length_set];exact h.hj)]
theorem RL.put (h:gZ l i j) (M:Hp):(RL l i j q r m).set i (GH q M)=RL l i j q r (m.put M):=by
 unfold RL;rw [List.set_comm _ _ (Ne.symm h.ne),List.set_set];rfl
theorem RL.turn (c:Int->Int) (t:List Int):(RL l i j q r m).set j (GkA r q c t)=RL l i j q r ⟨m.M,c,t⟩:=by
 unfold RL;rw [List.set_set]
variable {w0 w w':World}
theorem ML.mk (h:gZ l i j) (d:Fam w0 w (ML l i j hb p m)):∃ y v,aFv w p hb y v m.col m.list:=by
 obtain ⟨S,⟨y,v,z,_⟩,_⟩:=d.get j (ML.self h);exact ⟨y,v,z⟩
theorem aFv.same {mb y:Nat} {v v2:Value} {c c2:Int->Int} {t t2:List Int} (h:aFv w p hb mb v c t) (h2:aFv w p hb y v2 c2 t2):y=mb/\v2=v:=by
 obtain ⟨U,e⟩:=h.row;obtain ⟨U2,h4⟩:=h2.row;have z:=(e.cell 1 rfl).symm.trans (h4.cell 1 rfl);have d:=(e.cell 2 rfl).symm.trans (h4.cell 2 rfl);simp at z d;exact ⟨z.symm,d.symm⟩
theorem ML.mkT (h:gZ l i j) (hf:Fam w0 w (ML l i j hb p m)):∃ mb v,aFv w p hb mb v m.col m.list/\∀ (w':World) (y:Nat) (v':Value) (c:Int->Int) (t:List Int),aFv w' p hb y v' c t->(y=mb\/w.heap.size<=y)->
  (∀ g,v'.ownBlock=some g->v.ownBlock=some g\/w.heap.size<=g)->aI (fun k=>k=p\/k=mb\/v.ownBlock=some k) w w'->Fam w0 w' (ML l i j hb p ⟨m.M,c,t⟩):=by
 obtain ⟨mb,v,hm⟩:=ML.mk h hf;refine ⟨mb,v,hm,fun w' y v' c t h1 e h3 h4=>?_⟩;rw [<-ML.turn c t];refine hf.turn j (ML.self h) fun S d=>?_;obtain ⟨h6,v2,h0,d⟩:=d;obtain ⟨rfl,rfl⟩:=hm.same h0;refine ⟨fun k=>k=p\/k=y\/v'.ownBlock=some k,⟨y,v',h1,fun k=>Iff.rfl⟩,fun k z=>?_,h4.mono (fun k z=>.inl ((d k).2 z))⟩;rcases z with z|z|z
 ·exact .inl ((d k).2 (.inl z))
 ·rcases e with e|e
  ·exact .inl ((d k).2 (.inr (.inl (z.trans e))))
  exact .inr (by rw [z];exact e)
 rcases h3 k z with h5|h5
 ·exact .inl ((d k).2 (.inr (.inr h5)))
 exact .inr h5
theorem aEe.same {tg y tc z:Nat} {v v2:Value} {T T2:List Int} {c c2:Int->Int} {t t2:List Int} (h:aEe w r q tg tc v T c t) (h2:aEe w r q y z v2 T2 c2 t2):y=tg/\v2=v:=by
 obtain ⟨U,h3⟩:=h.row;obtain ⟨U2,h4⟩:=h2.row;have d:=(h3.cell 1 rfl).symm.trans (h4.cell 1 rfl);have e:=(h3.cell 2 rfl).symm.trans (h4.cell 2 rfl);simp at d e;exact ⟨d.1.symm,e.symm⟩
theorem RL.mk (h:gZ l i j) (e:Fam w0 w (RL l i j q r m)):∃ z y v T,aEe w r q z y v T m.col m.list:=by
 obtain ⟨S,⟨z,y,v,T,d,_⟩,_⟩:=e.get j (RL.self h);exact ⟨z,y,v,T,d⟩
theorem RL.mkT (h:gZ l i j) (hf:Fam w0 w (RL l i j q r m)):∃ tg tc v T,aEe w r q tg tc v T m.col m.list/\∀ (w':World) (y d:Nat) (v':Value) (T':List Int) (c:Int->Int) (t:List Int),aEe w' r q y d v' T' c t->(y=tg\/w.heap.size<=y)->
  (∀ g,v'.ownBlock=some g->v.ownBlock=some g\/w.heap.size<=g)->aI (fun k=>k=r\/k=tg\/v.ownBlock=some k) w w'->Fam w0 w' (RL l i j q r ⟨m.M,c,t⟩):=by
 obtain ⟨tg,tc,v,T,hm⟩:=RL.mk h hf;refine ⟨tg,tc,v,T,hm,fun w' y d v' T' c t h1 h2 h3 h4=>?_⟩;rw [<-RL.turn c t];refine hf.turn j (RL.self h) fun S e=>?_;obtain ⟨h7,h6,v2,T2,h0,e⟩:=e;obtain ⟨rfl,rfl⟩:=hm.same h0;refine ⟨fun k=>k=r\/k=y\/v'.ownBlock=some k,⟨y,d,v',T',h1,fun k=>Iff.rfl⟩,fun k z=>?_,h4.mono (fun k z=>.inl ((e k).2 z))⟩;rcases z with z|z|z
 ·exact .inl ((e k).2 (.inl z))
 ·rcases h2 with h2|h2
  ·exact .inl ((e k).2 (.inr (.inl (z.trans h2))))
  exact .inr (by rw [z];exact h2)
 rcases h3 k z with h5|h5
 ·exact .inl ((e k).2 (.inr (.inr h5)))
 exact .inr h5
end
end Go.Proofs.YthflghdaejbdkaaGreat
namespace Go.Proofs.YthflghdaejbdkaaGreat
open _root_.Go.Proofs.Tryz (prog)
open Go.RowKit Go.Maps
set_option maxRecDepth 100000
set_option linter.unusedVariables false
def NoA:Asn:=⟨fun _ S=>∀ k,¬ S k,fun h _ _=>h,fun h hk=>absurd hk (h _)⟩
def aRH (L:List Asn) (w:World) (S:Nat->Prop) (T:Nat->Nat->Prop):Prop:=
 (∀ (i:Nat) (A:Asn),L[i]?=some A->A.holds w (T i))/\(∀ i j,i<L.length->j<L.length->i≠j->∀ k,T i k->¬ T j k)/\∀ k,S k↔∃ i,i<L.length/\T i k
def aRn (L:List Asn):Asn:=
 ⟨fun w S=>∃ T,aRH L w S T,
  fun ⟨T,d,h2,z⟩ ho hd=>⟨T,fun i A y=>A.keep (d i A y) ho (fun k e x=>hd k e ((z k).2 ⟨i,(List.getElem?_eq_some_iff.1 y).1,x⟩)),h2,z⟩,
  fun ⟨T,d,h2,z⟩ e=>by
   obtain ⟨i,y,hT⟩:=(z _).1 e;exact (L[i]'y).lt (d i _ (List.getElem?_eq_getElem y)) hT⟩
def aLn {X:Type} (P:X->Prop) (F:X->List Asn):Asn:=
 ⟨fun w S=>∃ x,P x/\(aRn (F x)).holds w S,fun ⟨x,h1,h2⟩ ho hd=>⟨x,h1,(aRn (F x)).keep h2 ho hd⟩,fun ⟨x,_,h2⟩ hk=>(aRn (F x)).lt h2 hk⟩
section
variable {w0 w:World} {l L:List Asn} {i:Nat}
theorem Fam.selC (h:Fam w0 w l) {z:List Asn} (σ:Nat->Nat) (d:∀ i A,z[i]?=some A->l[σ i]?=some A) (h2:∀ i j,i<z.length->j<z.length->i≠j->σ i≠σ j):Fam w0 w z:=by
 obtain ⟨e,S,a,b,c⟩:=h;have y:∀ i,i<z.length->σ i<l.length:=fun i hi=>(List.getElem?_eq_some_iff.1 (d i _ (List.getElem?_eq_getElem hi))).1;exact ⟨e,fun i=>S (σ i),fun i A hi=>a _ A (d i A hi),fun i j hi hj hij=>b _ _ (y i hi) (y j hj) (h2 i j hi hj hij),fun i hi=>c _ (y i hi)⟩
theorem Fam.bW (h:Fam w0 w l) (i:Nat) {b T:Nat} {cs:List Value} (z:l[i]?=some (eY b T cs)) (j:Nat) (v:Value):Fam w0 (w.setCell ⟨b,j,none⟩ v) (l.set i (eY b T (cs.set j v))):=
 h.turn i z fun S y=>⟨S,⟨y.1.set j v,y.2⟩,fun k hk=>.inl hk,(aI.refl _ _).set (.inl ((y.2 b).2 rfl)) _⟩
theorem Fam.aQg {X:Type} {P:X->Prop} {F:X->List Asn} (h:Fam w0 w l) (hi:l[i]?=some (aLn P F)):∃ x,P x/\Fam w0 w (F x ++ l.set i NoA):=by
 obtain ⟨h0,S,h1,h2,h3⟩:=h;have d:=(List.getElem?_eq_some_iff.1 hi).1;obtain ⟨x,hx,T,t1,t2,t3⟩:=h1 i _ hi;have h4:(F x ++ l.set i NoA).length=(F x).length+l.length:=by rw [List.length_append,List.length_set]
 refine ⟨x,hx,h0,fun j=>if j<(F x).length then T j else if j - (F x).length=i then (fun _=>False) else S (j - (F x).length),fun j A hj=>?_,fun a b ha hb hab k=>?_,fun j hj k z=>?_⟩
 ·by_cases e:j<(F x).length
  ·simp only [e,if_true];rw [List.getElem?_append_left e] at hj;exact t1 j A hj
  simp only [e,if_false];rw [List.getElem?_append_right (by omega)] at hj
  by_cases y:j - (F x).length=i
  ·simp only [y,if_true];rw [y,List.getElem?_set_self d] at hj
   cases hj
   exact fun k z=>z
  simp only [y,if_false];rw [List.getElem?_set_ne (fun x=>y x.symm)] at hj;exact h1 _ A hj
 ·rw [h4] at ha hb
  by_cases ea:a<(F x).length
  ·simp only [ea,if_true]
   by_cases eb:b<(F x).length
   ·simp only [eb,if_true];exact t2 a b ea eb hab k
   simp only [eb,if_false]
   by_cases y:b - (F x).length=i
   ·simp only [y,if_true];exact fun _ h=>h
   simp only [y,if_false];exact fun z=>h2 i (b - (F x).length) d (by omega) (fun e=>y e.symm) k ((t3 k).2 ⟨a,ea,z⟩)
  simp only [ea,if_false]
  by_cases e1:a - (F x).length=i
  ·simp only [e1,if_true];exact fun h=>h.elim
  simp only [e1,if_false]
  by_cases eb:b<(F x).length
  ·simp only [eb,if_true];exact fun z h5=>h2 (a - (F x).length) i (by omega) d e1 k z ((t3 k).2 ⟨b,eb,h5⟩)
  simp only [eb,if_false]
  by_cases y:b - (F x).length=i
  ·simp only [y,if_true];exact fun _ h=>h
  simp only [y,if_false];exact h2 _ _ (by omega) (by omega) (by omega) k
 rw [h4] at hj
 by_cases e:j<(F x).length
 ·simp only [e,if_true] at z;exact h3 i d k ((t3 k).2 ⟨j,e,z⟩)
 simp only [e,if_false] at z
 by_cases y:j - (F x).length=i
 ·simp only [y,if_true] at z
 simp only [y,if_false] at z;exact h3 _ (by omega) k z
theorem Fam.aKX {X:Type} {P:X->Prop} {F:X->List Asn} {L l:List Asn} (x:X) (hx:P x) (hF:F x=L) (h:Fam w0 w (L ++ l)) (hi:l[i]?=some NoA):Fam w0 w (l.set i (aLn P F)):=by
 obtain ⟨h0,S,h1,h2,h3⟩:=h;have h4:=(List.getElem?_eq_some_iff.1 hi).1;have h7:(L ++ l).length=L.length+l.length:=List.length_append;have h6:(aRn (F x)).holds w (fun k=>∃ j,j<L.length/\S j k):=by
  rw [hF];exact ⟨S,fun j A y=>h1 j A (by rw [List.getElem?_append_left (List.getElem?_eq_some_iff.1 y).1];exact y),fun a b ha hb d=>h2 a b (by omega) (by omega) d,fun k=>Iff.rfl⟩
 refine ⟨h0,fun j=>if j=i then (fun k=>∃ j,j<L.length/\S j k) else S (L.length+j),fun j A y=>?_,fun a b ha hb d k=>?_,fun j y k z=>?_⟩
 ·by_cases e:j=i
  ·simp only [e,if_true];rw [e,List.getElem?_set_self h4] at y
   cases y
   exact ⟨x,hx,h6⟩
  simp only [e,if_false];rw [List.getElem?_set_ne (fun x=>e x.symm)] at y;exact h1 _ A (by rw [List.getElem?_append_right (by omega)];simpa using y)
 ·rw [List.length_set] at ha hb
  by_cases ea:a=i
  ·simp only [ea,if_true];have eb:b≠i:=fun e=>d (ea.trans e.symm);simp only [eb,if_false];rintro ⟨j,y,z⟩;exact h2 j (L.length+b) (by omega) (by omega) (by omega) k z
  simp only [ea,if_false]
  by_cases eb:b=i
  ·simp only [eb,if_true];rintro z ⟨j,y,h5⟩;exact h2 (L.length+a) j (by omega) (by omega) (by omega) k z h5
  simp only [eb,if_false];exact h2 _ _ (by omega) (by omega) (by omega) k
 rw [List.length_set] at y
 by_cases e:j=i
 ·simp only [e,if_true] at z;obtain ⟨j',h8,z⟩:=z;exact h3 j' (by omega) k z
 simp only [e,if_false] at z;exact h3 (L.length+j) (by omega) k z
theorem Fam.aNZ {X:Type} {P:X->Prop} {F:X->List Asn} {L l:List Asn} (x:X) (hx:P x) (d:F x=L) (h:Fam w0 w (L ++ l)):Fam w0 w (l ++ [aLn P F]):=by
 have y:Fam w0 w (L ++ (l ++ [NoA])):=by
  rw [<-List.append_assoc];exact h.add ⟨Only.refl _ _,fun _=>False,fun _ hk=>hk,fun _ hk=>hk.elim⟩
 have z:=y.aKX (i:=l.length) x hx d (by simp);rwa [List.set_append_right _ _ (Nat.le_refl _),Nat.sub_self] at z
theorem Fam.aRM {A:Asn} (h:Fam w0 w (A :: l)):Fam w0 w l:=
 h.selC Nat.succ (fun i B y=>by simpa using y) (fun i j _ _ hij e=>hij (Nat.succ.inj e))
theorem Fam.rest (h:Fam w0 w (L ++ l)):Fam w0 w l:=
 h.selC (fun i=>L.length+i) (fun i B hi=>by rw [List.getElem?_append_right (by omega)];simpa using hi) (fun i j _ _ y e=>y (by omega))
theorem aJj {i:Nat} {A:Asn}:(l.set i NoA).set i A=l.set i A:=by rw [List.set_set]
theorem aKA {i:Nat} (h:i<l.length):(l.set i NoA)[i]?=some NoA:=List.getElem?_set_self h
end
