/- Lemmas of this claim. -/
import Derived.Test.YthflghdaejbdkaaGreatIterLay
import Derived.Test.YthflghdaejbdkaaGreatXdObjG
import Derived.Lib.SlKeysI
import Derived.Test.YthflghdaejbdkaaGreatXdOFam
import Derived.OwnWalk
import Derived.Test.YthflghdaejbdkaaGreatXdOModel
import Derived.Test.YthflghdaejbdkaaGreatXdInts
import Derived.Laws.StructEq
import Derived.Test.YthflghdaejbdkaaGreatXdRBlockE
import Derived.Test.YthflghdaejbdkaaGreatXdOFull
namespace Go.Proofs.YthflghdaejbdkaaGreat
open Go.RowKit Go.Maps Go.Sort Go.Shelf
set_option maxHeartbeats 3200000
set_option maxRecDepth 100000
set_option linter.unusedVariables false
theorem aOd (m:Nat):AnyZI.SortsIn Tryz.prog Tryz.sortedA_ren Fence.wide m:=
 ⟨fun blk off cap ss W hH hblk hsz=>callsIn_wide.2 (AnyM.slices_Sort_int Tryz.sortA blk off cap ss W hH hblk hsz),
  fun p cap W=>callsIn_wide.2 (AnyM.slices_Sort_int_none Tryz.sortA p cap W)⟩
theorem aHL {P:Program} {k:TypeId} {R:Value->Option (DataW Unit×List MemPlace)} {w:World} {b n:Nat} {D:DataW Unit} (hown:w.ownsMap P k R b n D) (K:Keyed P k) (hk:P.underlying k=some (.int .i64)) {l ss:List Int} (hl:l.Pairwise (·<·)) (hm:∀ x,x∈l->wfI x) (hh:∀ x,wfI x->(Maps.has D (.int .i64 x)=true↔x∈l)) (hp:ss.Perm (intKeys D)) :
  ss.mergeSort (fun x y=>decide (x<=y))=l:=by
 obtain ⟨es,hD,hpw,_⟩:=hown.entries K;obtain ⟨es',hD',hko⟩:=hown.keysOf;obtain rfl:es=es':=by rw [hD] at hD';simpa using hD'
 subst hD;have hnd:l.Nodup:=hl.imp (fun h e=>by omega);have hkeys:∀ p∈es,∃ x,p.1=.int .i64 x/\wfI x:=fun p hp=>by
  obtain ⟨v,hv⟩:=hko p hp;obtain ⟨x,_,hx,hw⟩:=Maps.keyOf_i64 hk hv;exact ⟨x,hx,hw⟩
 have h1:l.Perm (intKeys (.map es)):=perm_intKeys hpw (fun p hp=>by obtain ⟨x,hx,_⟩:=hkeys p hp;exact ⟨x,hx⟩) hnd (fun x=>by
  constructor
  ·intro hx;exact (hh x (hm x hx)).2 hx
  intro hx;refine (hh x ?_).1 hx;simp only [Maps.has,List.any_eq_true] at hx;obtain ⟨p,hp,hs⟩:=hx;obtain ⟨y,hy,hw⟩:=hkeys p hp;rw [hy] at hs;have e:y=x:=by simpa [Lit.sameKey] using hs
  rw [<-e];exact hw)
 have h2:=mergeSort_of_perm_i (hp.trans h1.symm);show ss.mergeSort leI=l;rw [h2];exact List.mergeSort_of_pairwise (hl.imp (fun h=>by simp only [leI,decide_eq_true_eq];omega))
theorem aHe {w w':World} {B:Nat} (h:Below B w w') (hB:B=w.heap.size):Only [] w w':=by
 subst hB;exact ⟨h.os,h.tape,h.output,h.size,fun k hk _=>h.block k hk⟩
theorem zH (w:World) (mb:Option Nat):Calls Tryz.prog 135 #[.map mb] w fun e w'=>e=.returned (.func (.func 204) #[] #[.pointer (some ⟨w.heap.size,0,none⟩)])/\w'=w.alloc (.cells #[.map mb] 173):=
 callsIn_wide.1 (AnyZI.keys_in Tryz.keysA Fence.wide 5 trivial rfl mb w)
theorem uO {w:World} {mb n:Nat} {f:Int->Option Nat} (h:dL w mb n f) (hn:n<=1000000) {l:List Int} (hl:l.Pairwise (·<·)) (hm:∀ x,x∈l->wfI x) (hf:∀ x,wfI x->((f x).isSome=true↔x∈l)) :
  Calls Tryz.prog 133 #[.func (.func 204) #[] #[.pointer (some ⟨w.heap.size,0,none⟩)]] (w.alloc (.cells #[.map (some mb)] 173)) fun e w'=>
   ∃ v,e=.returned v/\aO w' w.heap.size v l/\Only [] w w':=by
 obtain ⟨D,hD,hDf⟩:=h;have hbl:=hD.lt;have hsz:=hD.size_le;have hseq:SeqGives Fence.wide 2 Tryz.prog 204 #[.pointer (some ⟨w.heap.size,0,none⟩)] encZ (fun ss=>ss.Perm (intKeys D)) (Maps.size D) (w.alloc (.cells #[.map (some mb)] 173)):=
  AnyZI.keys_gives (ρ:=Tryz.keysA_ren) { Tryz.keysA with } Fence.wide _ trivial rfl (by omega) w.heap.size mb n D _ (by simp) (by simp) (hD.alloc _)
 have cS:=AnyZI.sorted_in Tryz.sortedA Fence.wide 5 trivial trivial trivial trivial rfl (by omega) (aOd _) (enters_of Tryz.func202 (by kernel_rfl) rfl) 204 #[.pointer (some ⟨w.heap.size,0,none⟩)] trivial (enters_of Tryz.func204 (by kernel_rfl) rfl) _ _ (by simp only [maxLen];omega) (by omega) _ hseq;change CallsIn _ _ Tryz.prog 133 _ _ _ at cS;refine (callsIn_wide.1 cS).mono ?_;rintro e w' ⟨v,ss,rfl,hS,hrow,_,hb⟩;have hss:=aHL hD jA Tryz.underlying3 hl hm (fun x hx=>by rw [(hDf x hx).1];exact hf x hx) hS;have hlen:ss.length=l.length:=by rw [<-hss,List.length_mergeSort]
 rw [hss,hlen] at hrow;have ho:=aHe hb rfl;refine ⟨v,rfl,?_,((Only.refl [] w).alloc _).trans ho (by simp)⟩;have hI:aO w' (w.alloc (.cells #[.map (some mb)] 173)).heap.size v l:=hrow;exact hI.base (by simp)
theorem Hp.xU (M:Hp) (k:Nat):(M.aX k).Pairwise (·<·):=by
 induction k with
 | zero=>exact List.Pairwise.nil
 | succ k ih=>
  unfold Hp.aX;refine List.pairwise_append.2 ⟨ih,by split<;>simp,fun a ha b hb=>?_⟩
  have hb2:b=(k:Int)+1:=by
   split at hb
   ·simpa using hb
   simp at hb
  have:∀ j,∀ a,a∈M.aX j->a<(j:Int)+1:=by
   intro j
   induction j with
   | zero=>intro a ha;simp [Hp.aX] at ha
   | succ j ih2=>
    intro a ha;unfold Hp.aX at ha;rw [List.mem_append] at ha;rcases ha with ha|ha
    ·have:=ih2 a ha;omega
    split at ha
    ·simp at ha;omega
    simp at ha
  have:=this k a ha;omega
theorem Hp.aCn {M:Hp} {k:Nat} {x:Int}:x∈M.aX k↔∃ j:Nat,j<k/\x=(j:Int)+1/\(M.ob x).isSome=true:=by
 induction k with
 | zero=>simp [Hp.aX]
 | succ k ih=>
  unfold Hp.aX;rw [List.mem_append,ih];constructor
  ·rintro (⟨j,h1,h2,h3⟩|h)
   ·exact ⟨j,by omega,h2,h3⟩
   split at h
   ·rename_i hs;simp at h;subst h;exact ⟨k,by omega,rfl,hs⟩
   simp at h
  rintro ⟨j,h1,h2,h3⟩
  by_cases e:j=k
  ·right;subst e;subst h2;rw [if_pos h3];simp
  exact .inl ⟨j,by omega,h2,h3⟩
theorem Hp.Ok.xH {M:Hp} (hk:M.Ok) {x:Int}:x∈M.handles↔(M.ob x).isSome=true:=by
 unfold Hp.handles;rw [Hp.aCn];constructor
 ·rintro ⟨_,_,_,h⟩;exact h
 intro h;obtain ⟨o,ho⟩:=Option.isSome_iff_exists.1 h;have:=hk.hr x o ho;exact ⟨x.toNat - 1,by omega,by omega,h⟩
theorem oV {L:Nat->Option Lb} {hb:Nat} {M:Hp} {X:HX} (w:World) (h:dH w L hb M X) (hk:M.Ok):Calls Tryz.prog 62 #[.pointer (some ⟨hb,0,none⟩)] w (aMq w M.handles):=by
 refine aF fun R hR=>?_;have h1:=jB w h;have c1:=h.cells.2.1;have hkeys:=zH w (some X.mb);have hsort:=uO h.mp (by omega) (l:=M.handles) (Hp.xU M 192) (fun x hx=>by
  obtain ⟨o,ho⟩:=Option.isSome_iff_exists.1 (hk.xH.1 hx);have:=hk.hr x o ho;exact dI (by omega)) (fun x _=>by
  rw [hk.xH]
  cases M.ob x<;>simp)
 clear h hk;go_in;go_wp2_with fail;refine h1.mono ?_;rintro e _ ⟨rfl,rfl⟩;go_wp2_with fail;refine hkeys.mono ?_;rintro e _ ⟨rfl,rfl⟩;go_wp2_with fail;refine hsort.mono ?_;rintro e w5 ⟨v,rfl,hi,ho⟩;have HI:=aA hi;have HO:=aA ho;clear h1 hkeys hsort hi ho;go_wp2_with fail;exact hR.out _ _ ⟨v,rfl,HI.out,HO.out⟩
end Go.Proofs.YthflghdaejbdkaaGreat
namespace Go.Proofs.YthflghdaejbdkaaGreat
open Go.RowKit Go.Maps
set_option maxHeartbeats 12800000
set_option maxRecDepth 100000
set_option linter.unusedVariables false
theorem Hp.Ok.wfH {M:Hp} (hk:M.Ok) {k:Int} (h:(M.ob k).isSome=true):wfI k:=by
 obtain ⟨o,ho⟩:=Option.isSome_iff_exists.1 h;have:=hk.hr k o ho;exact dI (by omega)
theorem aEY {l:List Int} {i:Nat} (h:i<l.length):gI l i=l[i]:=by unfold gI;rw [List.getElem?_eq_getElem h];rfl
theorem aOR {l:List Bool} {i j:Nat} {v:Bool} (hi:i<l.length):gB (l.set i v) j=if j=i then v else gB l j:=by
 unfold gB;rw [List.getElem?_set]
 by_cases e:i=j
 ·subst e;rw [if_pos rfl,if_pos hi,if_pos rfl];rfl
 rw [if_neg e,if_neg (Ne.symm e)]
section
variable {M:Hp} {i k:Nat} {o o2:Th} {bits:List Bool}
end
theorem aKR (n:Nat) (hn:n<=1000):∃ C:Array Value,C.toList=(List.replicate n false).map Value.bool/\∀ wx:World,(Instr.makeSlice 50 (.int .i64 (n:Int)) (.int .i64 (n:Int))).run Tryz.prog wx=.ok (.slice (some ⟨wx.heap.size,0,none⟩) n n) (wx.alloc (.cells C 4)):=by
 obtain ⟨i0,hi0,hz0,hz1,hz2⟩:=info_parts vN;refine ⟨madeCells (Value.bool false).cells (n*1),by rw [aKT,List.map_replicate],fun wx=>?_⟩;rw [run_makeSlice (P:=Tryz.prog) (w:=wx) 50 4 i0 _ Tryz.underlying50 hi0 hz0 .i64 .i64 _ _ (by omega) (by omega) (by rw [hz1];omega) (by rw [hz2];omega) (by omega),hz1];rfl
end Go.Proofs.YthflghdaejbdkaaGreat
namespace Go.Proofs.YthflghdaejbdkaaGreat
set_option linter.unusedVariables false
set_option maxRecDepth 100000
def Hp.fG (M:Hp) (roots:List Int):Prop:=∃ x,x∈roots/\x≠0/\M.ob x=none
section
variable {M:Hp} {roots:List Int}
theorem Hp.Ok.aPZ (hk:M.Ok) {x y:Int} {o:Th} (ho:M.ob x=some o) (hy:y∈o.uP):(M.ob y).isSome=true/\1<=y/\y<=192:=by
 obtain ⟨s,hs,h1,h2,h3⟩:=Th.aBY hy;have h4:=hk.sl x o ho s hs;rw [h1,h2] at h4;have h5:(M.ob y).isSome=true:=by
  unfold Hp.fits at h4;simp only [if_true,Bool.or_eq_true,decide_eq_true_eq] at h4;rcases h4 with h4|h4
  ·exact absurd h4 h3
  exact h4
 obtain ⟨o',ho'⟩:=Option.isSome_iff_exists.1 h5;exact ⟨h5,hk.hr y o' ho'⟩
end
def jM (f:Int->Int) (k v:Int):Int->Int:=fun j=>if j=k then v else f j
theorem bZ (f:Int->Int) (k v:Int):jM f k v k=v:=if_pos rfl
theorem bG (f:Int->Int) {k j:Int} (v:Int) (h:j≠k):jM f k v j=f j:=if_neg h
structure Mk where
 M:Hp
 col:Int->Int
 list:List Int
def Mk.wh (m:Mk) (x:Int):Bool:=decide (x≠0) && (m.M.ob x).isSome && decide (m.col x=0)
def Mk.bH (m:Mk) (x:Int):Mk:=if m.wh x then ⟨m.M,jM m.col x 1,m.list ++ [x]⟩ else m
def Mk.bC (m:Mk) (l:List Int):Mk:=l.foldl Mk.bH m
def Mk.put (m:Mk) (M:Hp):Mk:=⟨M,m.col,m.list⟩
def bM (l:List Int) (x:Int):List Int:=l.filter (fun y=>decide (y≠x))
def Mk.black (m:Mk) (x:Int):Mk:=⟨m.M,jM m.col x 2,bM m.list x⟩
def Mk.forget (m:Mk) (x:Int):Mk:=⟨m.M,jM m.col x 0,bM m.list x⟩
def Mk.start (M:Hp):Mk:=⟨M,fun _=>0,[]⟩
def Mk.next (m:Mk):Int×Int:=match m.list with|[]=>(0,3)|h :: _=>(h,0)
def Mk.dV (m:Mk) (h:Int):Mk:=(⟨m.M,jM m.col h 2,m.list.drop 1⟩:Mk).bC (m.M.refs h).1
def Mk.step (m:Mk):Int×Int×Mk:=match m.list with|[]=>(0,3,m)|h :: _=>(h,0,m.dV h)
def Mk.store (m:Mk) (h s v:Int):Int×Mk:=
 let r:=m.M.set h s v
 (r.1,if r.1=0/\(m.M.isRef h s).1=true then ((m.put r.2).bH (m.M.get h s).1).bH v else m.put r.2)
def Mk.made (m:Mk) (r:Int×Int×Hp):Int×Int×Mk:=(r.1,r.2.1,if r.2.1=0 then (m.put r.2.2).black r.1 else m.put r.2.2)
def Mk.aH (m:Mk) (c:Int) (l:List Bool):Int×Int×Mk:=m.made (m.M.aH c l)
def Mk.aG (m:Mk) (k c n:Int):Int×Int×Mk:=m.made (m.M.aG k c n)
def Mk.jL (m:Mk) (x:Int):Int:=if x≠0/\(m.M.ob x).isSome=false then 3 else 0
def Mk.color (m:Mk) (x:Int):Int×Int:=if (m.M.ob x).isSome then (m.col x,0) else (0,3)
def Mk.white (m:Mk):List Int:=m.M.handles.filter (fun x=>decide (m.col x=0))
structure Mk.Ok (m:Mk):Prop where
 hf:m.M.OkF
 rg:∀ k,m.col k=0\/m.col k=1\/m.col k=2
 us:∀ k,m.col k≠0->(m.M.ob k).isSome=true
 nd:m.list.Nodup
 gr:∀ k,k∈m.list↔m.col k=1
section
variable {m:Mk} {x:Int}
theorem Hp.Ok.inR {M:Hp} (hk:M.Ok) (h:(M.ob x).isSome=true):1<=x/\x<=192:=by
 obtain ⟨o,ho⟩:=Option.isSome_iff_exists.1 h;exact hk.hr x o ho
theorem Mk.kG:m.wh x=true↔x≠0/\(m.M.ob x).isSome=true/\m.col x=0:=by
 unfold Mk.wh;simp [and_assoc]
theorem Mk.Ok.aEv (h:m.Ok) (hx:x∈m.list):(m.M.ob x).isSome=true:=h.us x (by rw [(h.gr x).1 hx];decide)
theorem Mk.Ok.inR (h:m.Ok) (hx:x∈m.list):1<=x/\x<=192:=h.hf.ok.inR (h.aEv hx)
theorem aEM {l:List Int} (hn:l.Nodup) (hr:∀ x∈l,1<=x/\x<=192):l.length<=192:=by
 have h:(l.map Int.toNat).Nodup:=by
  rw [List.nodup_iff_pairwise_ne,List.pairwise_map];rw [List.nodup_iff_pairwise_ne] at hn;refine hn.imp_of_mem ?_;intro a b ha hb hne e;have:=hr a ha;have:=hr b hb;exact hne (by omega)
 have h2:(l.map Int.toNat) ⊆ List.range 193:=by
  intro y hy;obtain ⟨a,ha,rfl⟩:=List.mem_map.1 hy;have:=hr a ha;rw [List.mem_range];omega
 have h3:0∉l.map Int.toNat:=by
  intro hy;obtain ⟨a,ha,e⟩:=List.mem_map.1 hy;have:=hr a ha;omega
 have h4:(0 :: l.map Int.toNat).Nodup:=List.nodup_cons.2 ⟨h3,h⟩;have h5:(0 :: l.map Int.toNat) ⊆ List.range 193:=List.cons_subset.2 ⟨by simp,h2⟩;have h6:=(kR h4 (l2:=List.range 193) (fun x hx=>h5 hx)).1;simp at h6;omega
theorem Mk.Ok.len (h:m.Ok):m.list.length<=192:=aEM h.nd (fun x hx=>h.inR hx)
theorem Mk.Ok.bH (h:m.Ok) (x:Int):(m.bH x).Ok:=by
 unfold Mk.bH;split
 ·rename_i hw;obtain ⟨h1,h2,h3⟩:=Mk.kG.1 hw;refine ⟨h.hf,fun k=>?_,fun k hk=>?_,?_,fun k=>?_⟩
  ·show jM m.col x 1 k=0\/jM m.col x 1 k=1\/jM m.col x 1 k=2
   by_cases e:k=x
   ·rw [e,bZ];exact .inr (.inl rfl)
   rw [bG _ _ e];exact h.rg k
  ·have hk2:jM m.col x 1 k≠0:=hk
   by_cases e:k=x
   ·rw [e];exact h2
   rw [bG _ _ e] at hk2;exact h.us k hk2
  ·show (m.list ++ [x]).Nodup;rw [List.nodup_append];refine ⟨h.nd,by simp,fun a ha b hb e=>?_⟩;simp at hb;rw [e,hb] at ha;have:=(h.gr x).1 ha;omega
  show k∈m.list ++ [x]↔jM m.col x 1 k=1;rw [List.mem_append]
  by_cases e:k=x
  ·rw [e,bZ];simp
  rw [bG _ _ e,h.gr k];simp [e]
 exact h
theorem Mk.oM:(m.bH x).M=m.M:=by unfold Mk.bH;split<;>rfl
theorem Mk.qA (l:List Int):∀ m:Mk,(m.bC l).M=m.M:=by
 induction l with
 | nil=>intro m;rfl
 | cons a l ih=>intro m;exact (ih (m.bH a)).trans Mk.oM
theorem Mk.Ok.bC (l:List Int):∀ m:Mk,m.Ok->(m.bC l).Ok:=by
 induction l with
 | nil=>intro m h;exact h
 | cons a l ih=>intro m h;exact ih _ (h.bH a)
theorem Mk.wE (k:Int):(m.bH x).col k=m.col k\/(k=x/\m.wh x=true/\m.col k=0/\(m.bH x).col k=1):=by
 unfold Mk.bH;split
 ·rename_i hw;show jM m.col x 1 k=m.col k\/_
  by_cases e:k=x
  ·exact .inr ⟨e,hw,by rw [e];exact (Mk.kG.1 hw).2.2,by rw [e];exact bZ _ _ _⟩
  exact .inl (bG _ _ e)
 exact .inl rfl
theorem Mk.nM (l:List Int) (k:Int):∀ m:Mk,(m.bC l).col k=m.col k\/(k∈l/\k≠0/\(m.M.ob k).isSome=true/\m.col k=0/\(m.bC l).col k=1):=by
 induction l with
 | nil=>intro m;exact .inl rfl
 | cons a l ih=>
  intro m;have h1:=ih (m.bH a);show ((m.bH a).bC l).col k=_\/(_/\_/\_/\_/\((m.bH a).bC l).col k=1);rcases Mk.wE (m:=m) (x:=a) k with h2|⟨h2,h3,h4,h5⟩
  ·rw [h2] at h1;rw [Mk.oM] at h1;rcases h1 with h1|⟨h1,h6,h7,h8,h9⟩
   ·exact .inl h1
   exact .inr ⟨List.mem_cons_of_mem _ h1,h6,h7,h8,h9⟩
  rcases h1 with h1|⟨_,_,_,h8,_⟩
  ·obtain ⟨w1,w2,w3⟩:=Mk.kG.1 h3;exact .inr ⟨by rw [h2];exact List.mem_cons_self,by rw [h2];exact w1,by rw [h2];exact w2,h4,by rw [h1,h5]⟩
  omega
theorem aDQ {l:List Int} {k:Int}:k∈bM l x↔k∈l/\k≠x:=by unfold bM;simp
theorem aBy {l:List Int} (h:x∉l):bM l x=l:=by
 unfold bM;rw [List.filter_eq_self];intro a ha;simp;intro e;exact h (by rw [<-e];exact ha)
theorem aAB {l:List Int} (h:l.Nodup):(bM l x).Nodup:=h.filter _
theorem Mk.Ok.black (h:m.Ok) (hx:(m.M.ob x).isSome=true):(m.black x).Ok:=by
 refine ⟨h.hf,fun k=>?_,fun k hk=>?_,aAB h.nd,fun k=>?_⟩
 ·show jM m.col x 2 k=0\/jM m.col x 2 k=1\/jM m.col x 2 k=2
  by_cases e:k=x
  ·rw [e,bZ];exact .inr (.inr rfl)
  rw [bG _ _ e];exact h.rg k
 ·have hk2:jM m.col x 2 k≠0:=hk
  by_cases e:k=x
  ·rw [e];exact hx
  rw [bG _ _ e] at hk2;exact h.us k hk2
 show k∈bM m.list x↔jM m.col x 2 k=1;rw [aDQ]
 by_cases e:k=x
 ·rw [e,bZ];simp
 rw [bG _ _ e,h.gr k];simp [e]
theorem Mk.Ok.start {M:Hp} (h:M.OkF):(Mk.start M).Ok:=⟨h,fun _=>.inl rfl,fun k hk=>absurd rfl hk,by simp [Mk.start],fun k=>by simp [Mk.start]⟩
theorem Mk.Ok.put (h:m.Ok) {M:Hp} (hM:M.OkF) (hu:∀ k,(m.M.ob k).isSome=true->(M.ob k).isSome=true):(m.put M).Ok:=
 ⟨hM,h.rg,fun k hk=>hu k (h.us k hk),h.nd,h.gr⟩
theorem uI {h:Int} {t:List Int} (e:m.list=h :: t) (hn:m.list.Nodup):(⟨m.M,jM m.col h 2,m.list.drop 1⟩:Mk)=m.black h:=by
 unfold Mk.black;rw [e] at hn ⊢;have:bM (h :: t) h=t:=by
  have h1:=(List.nodup_cons.1 hn).1;show List.filter _ (h :: t)=t;rw [List.filter_cons_of_neg (by simp)];exact aBy h1
 rw [this];rfl
theorem Mk.Ok.dV (h:m.Ok) {x:Int} {t:List Int} (e:m.list=x :: t):(m.dV x).Ok:=by
 unfold Mk.dV;rw [uI e h.nd];exact Mk.Ok.bC _ _ (h.black (h.aEv (by rw [e];simp)))
theorem Mk.Ok.step (h:m.Ok):m.step.2.2.Ok:=by
 unfold Mk.step
 cases e:m.list with
 | nil=>exact h
 | cons x t=>exact h.dV e
theorem Mk.pY:m.step.2.2.M=m.M:=by
 unfold Mk.step
 cases e:m.list with
 | nil=>rfl
 | cons x t=>exact Mk.qA _ _
def Mk.left (m:Mk):Nat:=cnt (fun k=>(m.M.ob ((k:Int)+1)).isSome && decide (m.col ((k:Int)+1)≠2)) 192
theorem Mk.left_le:m.left<=192:=pU _ _
theorem Mk.left_step (h:m.Ok) (e:m.list≠[]):m.step.2.2.left+1=m.left:=by
 unfold Mk.step
 cases el:m.list with
 | nil=>exact absurd el e
 | cons x t=>
  obtain ⟨h1,h2⟩:=h.inR (x:=x) (by rw [el];simp);have hc:m.col x=1:=(h.gr x).1 (by rw [el];simp);have hu:=h.aEv (x:=x) (by rw [el];simp);obtain ⟨k0,hk0,hx⟩:∃ k:Nat,k<192/\x=(k:Int)+1:=⟨(x - 1).toNat,by omega,by omega⟩;show (m.dV x).left+1=m.left;have hl:(m.dV x).left=cnt (up (fun k=>(m.M.ob ((k:Int)+1)).isSome && decide (m.col ((k:Int)+1)≠2)) k0 false) 192:=jD fun j hj=>by
   have hM:(m.dV x).M=m.M:=Mk.qA _ _;rw [hM]
   by_cases ej:j=k0
   ·rw [ej,bK,<-hx];have hcc:(m.dV x).col x=2:=by
     rcases Mk.nM (m.M.refs x).1 x ⟨m.M,jM m.col x 2,m.list.drop 1⟩ with h3|⟨_,_,_,h4,_⟩
     ·exact h3.trans (bZ _ _ _)
     rw [show (⟨m.M,jM m.col x 2,m.list.drop 1⟩:Mk).col x=2 from bZ _ _ _] at h4;omega
    rw [hcc];simp
   rw [aW _ _ ej];have hne:(j:Int)+1≠x:=by omega
   have hcc:(m.dV x).col ((j:Int)+1)=2↔m.col ((j:Int)+1)=2:=by
    have e0:(⟨m.M,jM m.col x 2,m.list.drop 1⟩:Mk).col ((j:Int)+1)=m.col ((j:Int)+1):=bG _ _ hne;rcases Mk.nM (m.M.refs x).1 ((j:Int)+1) ⟨m.M,jM m.col x 2,m.list.drop 1⟩ with h3|⟨_,_,_,h4,h5⟩
    ·rw [show (m.dV x).col ((j:Int)+1)=_ from h3,e0]
    rw [e0] at h4;rw [show (m.dV x).col ((j:Int)+1)=1 from h5,h4];omega
   congr 1;rw [decide_eq_decide];exact not_congr hcc
  rw [hl];exact yQ hk0 (by rw [<-hx,hu,hc];rfl)
theorem Hp.nN (M:Hp) (h s v k:Int):((M.set h s v).2.ob k).isSome=(M.ob k).isSome:=by
 unfold Hp.set
 cases e:M.ob h with
 | none=>rfl
 | some o=>
  simp only;split
  ·rfl
  split
  ·show (dX M.ob h _ k).isSome=_
   by_cases ek:k=h
   ·rw [ek,aZ,e];rfl
   rw [bD _ _ ek]
  rfl
theorem Hp.add_facts (M:Hp) (o:Th):(∀ k,(M.ob k).isSome=true->(M.add o).2.2.ob k=M.ob k)/\((M.add o).2.1=0->M.ob (M.add o).1=none/\∃ bs,(M.add o).2.2.ob (M.add o).1=some { o with blocks:=bs }/\∀ k,k≠(M.add o).1->(M.add o).2.2.ob k=M.ob k)/\((M.add o).2.1≠0->(M.add o).2.2=M/\(M.add o).1=0):=by
 unfold Hp.add;split
 ·rename_i hl;have hn:=M.nU hl
  cases e:dK M.P (aT o.slots.length) (aT o.slots.length).length with
  | none=>exact ⟨fun _ _=>rfl,fun h=>absurd (show (14:Int)=0 from h) (by decide),fun _=>⟨rfl,rfl⟩⟩
  | some r=>
   obtain ⟨bs,Q⟩:=r;simp only;refine ⟨fun k hk=>?_,fun _=>⟨hn,bs,aZ _ _ _,fun k hk=>bD _ _ hk⟩,fun h=>absurd rfl h⟩;exact bD _ _ (fun e2=>by rw [e2,hn] at hk;cases hk)
 exact ⟨fun _ _=>rfl,fun h=>absurd (show (14:Int)=0 from h) (by decide),fun _=>⟨rfl,rfl⟩⟩
structure uU (M:Hp) (r:Int×Int×Hp):Prop where
 ok:M.OkF->r.2.2.OkF
 old:∀ k,(M.ob k).isSome=true->r.2.2.ob k=M.ob k
 no:r.2.1≠0->r.2.2=M/\r.1=0
 yes:r.2.1=0->M.ob r.1=none/\(∀ k,k≠r.1->r.2.2.ob k=M.ob k)/\∃ o,r.2.2.ob r.1=some o/\∀ s,gI o.slots s=0
theorem uU.add (M:Hp) {o:Th} (ho:o.ok1) (hz:∀ s,gI o.slots s=0):uU M (M.add o):=by
 obtain ⟨h1,h2,h3⟩:=M.add_facts o;exact ⟨fun h=>h.add ho hz,h1,h3,fun e=>by
  obtain ⟨a,bs,b,c⟩:=h2 e;exact ⟨a,c,_,b,hz⟩⟩
theorem uU.none (M:Hp) {e:Int} (he:e≠0):uU M (0,e,M):=⟨id,fun _ _=>rfl,fun _=>⟨rfl,rfl⟩,fun h=>absurd h he⟩
theorem Hp.gY (M:Hp) (c:Int) (l:List Bool):uU M (M.aH c l):=by
 unfold Hp.aH;split
 ·exact uU.none M (by decide)
 rename_i hc;exact uU.add M (oP hc).1 (oP hc).2
theorem Hp.iY (M:Hp) (k c n:Int):uU M (M.aG k c n):=by
 unfold Hp.aG;split
 ·exact uU.none M (by decide)
 rename_i hc;split
 ·rename_i hd;exact uU.add M (pF hc hd).1 (pF hc hd).2
 exact uU.none M (by decide)
theorem Mk.Ok.made (h:m.Ok) {r:Int×Int×Hp} (hr:uU m.M r):(m.made r).2.2.Ok:=by
 have h1:(m.put r.2.2).Ok:=h.put (hr.ok h.hf) (fun k hk=>by rw [hr.old k hk];exact hk);unfold Mk.made;split
 ·rename_i e;obtain ⟨_,_,o,ho,_⟩:=hr.yes e;exact h1.black (by show (r.2.2.ob r.1).isSome=true;rw [ho];rfl)
 exact h1
theorem Mk.Ok.aH (h:m.Ok) (c:Int) (l:List Bool):(m.aH c l).2.2.Ok:=h.made (m.M.gY c l)
theorem Mk.Ok.aG (h:m.Ok) (k c n:Int):(m.aG k c n).2.2.Ok:=h.made (m.M.iY k c n)
theorem Mk.Ok.store (h:m.Ok) (a s v:Int):(m.store a s v).2.Ok:=by
 have h1:(m.put (m.M.set a s v).2).Ok:=h.put (h.hf.set a s v) (fun k hk=>by rw [Hp.nN];exact hk);unfold Mk.store;simp only;split
 ·exact (h1.bH _).bH _
 exact h1
theorem aKG {M:Hp} (hk:M.Ok) {y:Int} (hy:y∈(M.refs x).1):y≠0/\(M.ob y).isSome=true:=by
 unfold Hp.refs at hy
 cases e:M.ob x with
 | none=>rw [e] at hy;cases hy
 | some o=>
  rw [e] at hy;have:=hk.aPZ e hy;exact ⟨by omega,this.1⟩
end
set_option maxHeartbeats 1600000
section
variable {m:Mk} {roots:List Int} {x k:Int}
theorem Mk.aKp (h:m.Ok) {x:Int} {t:List Int} (e:m.list=x :: t) (k:Int):(m.dV x).col k=2/\k=x\/k≠x/\(m.dV x).col k=m.col k\/k≠x/\m.col k=0/\(m.dV x).col k=1/\k∈(m.M.refs x).1:=by
 by_cases ek:k=x
 ·left;rw [ek];refine ⟨?_,rfl⟩;rcases Mk.nM (m.M.refs x).1 x ⟨m.M,jM m.col x 2,m.list.drop 1⟩ with h3|⟨_,_,_,h4,_⟩
  ·exact h3.trans (bZ _ _ _)
  rw [show (⟨m.M,jM m.col x 2,m.list.drop 1⟩:Mk).col x=2 from bZ _ _ _] at h4;omega
 have e0:(⟨m.M,jM m.col x 2,m.list.drop 1⟩:Mk).col k=m.col k:=bG _ _ ek;rcases Mk.nM (m.M.refs x).1 k ⟨m.M,jM m.col x 2,m.list.drop 1⟩ with h3|⟨h1,_,_,h4,h5⟩
 ·exact .inr (.inl ⟨ek,h3.trans e0⟩)
 rw [e0] at h4;exact .inr (.inr ⟨ek,h4,h5,h1⟩)
def Mk.used (m:Mk):Nat:=cnt (fun k=>(m.M.ob ((k:Int)+1)).isSome) 192
theorem aCx (M:Hp) (k:Nat):(M.aX k).length=cnt (fun j=>(M.ob ((j:Int)+1)).isSome) k:=by
 induction k with
 | zero=>rfl
 | succ k ih=>
  unfold Hp.aX cnt;rw [List.length_append,ih];split<;>rfl
theorem Mk.aEu (m:Mk):m.used=m.M.handles.length:=(aCx m.M 192).symm
end
section
variable {m:Mk} {K:List Int} {x k:Int}
theorem aHP (M:Hp) (a s v:Int):((M.set a s v).1≠0/\(M.set a s v).2=M)\/∃ o,∃ j:Nat,s=(j:Int)/\M.ob a=some o/\j<o.slots.length/\M.fits (gB o.refs j) v=true/\(M.set a s v).1=0/\(M.set a s v).2.ob=dX M.ob a (some (o.put j v))/\(M.isRef a s).1=gB o.refs j/\(M.get a s).1=gI o.slots j:=by
 unfold Hp.set Hp.isRef Hp.get
 cases e:M.ob a with
 | none=>exact .inl ⟨show (3:Int)≠0 by decide,rfl⟩
 | some o=>
  simp only
  by_cases h:s<0\/(o.slots.length:Int)<=s
  ·rw [if_pos h];exact .inl ⟨show (1:Int)≠0 by decide,rfl⟩
  rw [if_neg h,if_neg h,if_neg h]
  by_cases hf:M.fits (gB o.refs s.toNat) v=true
  ·rw [if_pos hf];exact .inr ⟨o,s.toNat,by omega,rfl,by omega,hf,rfl,rfl,rfl,rfl⟩
  rw [if_neg hf];exact .inl ⟨show (1:Int)≠0 by decide,rfl⟩
end
end Go.Proofs.YthflghdaejbdkaaGreat
namespace Go.Proofs.YthflghdaejbdkaaGreat
set_option linter.unusedVariables false
set_option maxRecDepth 100000
structure En where
 kind:Int
 tgt:Int
 tag:Int
structure Tb where
 ents:List En
 q:List Int
 ph:Nat
 nx:Nat
 fd:Nat->Bool
def eAt (l:List En) (i:Nat):En:=l[i]?.getD ⟨0,0,0⟩
def Tb.new:Tb:=⟨[],[],0,0,fun _=>false⟩
def Mk.isW (m:Mk) (x:Int):Bool:=(m.M.ob x).isSome && decide (m.col x=0)
def nxt (l:List En) (k:Int) (n:Nat):Nat:=fst (fun i=>decide (n<=i) && decide ((eAt l i).kind=k)) l.length
def Tb.at (t:Tb) (ph nx:Nat):Tb:=⟨t.ents,t.q,ph,nx,t.fd⟩
def Tb.zB (t:Tb) (n:Nat):Tb:=t.at 4 (nxt t.ents 3 n)
def Tb.rJ (t:Tb) (m:Mk):Tb:=if m.list=[] then t.zB 0 else t.at 3 0
def Tb.set2 (t:Tb) (m:Mk) (n:Nat):Tb:=if nxt t.ents 2 n<t.ents.length then t.at 2 (nxt t.ents 2 n) else t.rJ m
def Tb.find (t:Tb) (m:Mk):Tb:=⟨t.ents,t.q,t.ph,t.nx,fun i=>decide ((eAt t.ents i).kind=2) && m.isW (eAt t.ents i).tgt⟩
def Tb.set1 (t:Tb) (m:Mk) (n:Nat):Tb:=if nxt t.ents 1 n<t.ents.length then t.at 1 (nxt t.ents 1 n) else (t.find m).set2 m 0
def Tb.settle (t:Tb) (m:Mk):Tb:=if t.ph=1 then t.set1 m t.nx else if t.ph=2 then t.set2 m t.nx else if t.ph=3 then t.rJ m else if t.ph=4 then t.zB t.nx else t
def Tb.add (t:Tb) (m:Mk) (k x g:Int):Int×Int×Tb:=
 if k<1\/3<k then (0,1,t) else if t.ph≠0 then (0,13,t) else if (m.M.ob x).isSome=false then (0,3,t) else if 20<=t.ents.length then (0,2,t)
 else (t.ents.length,0,⟨t.ents ++ [⟨k,x,g⟩],t.q,t.ph,t.nx,t.fd⟩)
def Tb.target (t:Tb) (i:Int):Int×Int:=if i<0\/(t.ents.length:Int)<=i then (0,1) else ((eAt t.ents i.toNat).tgt,0)
def Tb.take (t:Tb):Int×Int×Tb:=match t.q with|[]=>(0,3,t)|x :: r=>(x,0,⟨t.ents,r,t.ph,t.nx,t.fd⟩)
def Tb.begin (t:Tb) (m:Mk):Int×Tb:=if t.ph≠0\/m.list≠[] then (13,t) else (0,(t.at 1 0).settle m)
def En.off (e:En):En:=⟨e.kind,0,e.tag⟩
def Tb.clear (t:Tb) (m:Mk) (i:Nat):Tb×Mk:=
 let e:=eAt t.ents i
 if t.ph=2 then (if t.fd i then (⟨t.ents.set i e.off,t.q ++ [e.tag],t.ph,t.nx,t.fd⟩,m.bH e.tgt) else (t,m))
 else (if m.isW e.tgt then ⟨t.ents.set i e.off,t.q,t.ph,t.nx,t.fd⟩ else t,m)
def Tb.step (t:Tb) (m:Mk):Int×Int×Int×Tb×Mk:=
 if t.ph=0 then (0,0,13,t,m) else
 let s:=t.settle m
 if s.ph=3 then (3,m.step.1,0,s.settle m.step.2.2,m.step.2.2)
 else if s.ents.length<=s.nx then (0,0,3,s.at 0 0,m)
 else let c:=s.clear m s.nx;((s.ph:Int),(s.nx:Int),0,(c.1.at s.ph (s.nx+1)).settle c.2,c.2)
section
variable {t:Tb} {m:Mk} {l:List En} {k:Int} {n i:Nat}
theorem mM:nxt l k n<=l.length:=aCP _ _
theorem mO (h:nxt l k n<l.length):n<=nxt l k n/\(eAt l (nxt l k n)).kind=k:=by
 have:=(dN (fun i=>decide (n<=i) && decide ((eAt l i).kind=k)) l.length).2 h;simp only [Bool.and_eq_true,decide_eq_true_eq] at this;exact this
theorem vI (h1:n<=i) (h2:i<nxt l k n):(eAt l i).kind≠k:=fun e=>by
 have:=(dN (fun i=>decide (n<=i) && decide ((eAt l i).kind=k)) l.length).1 i h2;simp [h1,e] at this
theorem jU {e:En} (hi:i<l.length) (j:Nat):eAt (l.set i e) j=if j=i then e else eAt l j:=by
 unfold eAt;rw [List.getElem?_set]
 by_cases h:i=j
 ·subst h;rw [if_pos rfl,if_pos hi,if_pos rfl];rfl
 rw [if_neg h,if_neg (Ne.symm h)]
end
end Go.Proofs.YthflghdaejbdkaaGreat
