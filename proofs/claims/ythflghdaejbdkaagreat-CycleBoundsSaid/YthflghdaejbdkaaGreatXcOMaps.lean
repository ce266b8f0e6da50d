/- Lemmas of this claim. -/
import Derived.Test.YthflghdaejbdkaaGreatXcInts
import Derived.Test.YthflghdaejbdkaaGreatXcLib
import Derived.Maps.RangeWalk
import Derived.Maps.Ext
import Derived.WalkSpells
import Derived.Test.YthflghdaejbdkaaGreatXcOModel
namespace Go.Proofs.YthflghdaejbdkaaGreat
open _root_.Go.Proofs.Tryz (prog)
open Go.RowKit Go.Maps
set_option maxHeartbeats 1600000
set_option maxRecDepth 100000
set_option linter.unusedVariables false
structure aI (S:Nat->Prop) (w w':World):Prop where
 os:w'.os=w.os
 tape:w'.tape=w.tape
 output:w'.output=w.output
 size:w.heap.size<=w'.heap.size
 block:∀ k,k<w.heap.size->¬ S k->w'.heap[k]?=w.heap[k]?
section
variable {S S':Nat->Prop} {a b w w':World}
theorem aI.refl (S:Nat->Prop) (w:World):aI S w w:=⟨rfl,rfl,rfl,Nat.le_refl _,fun _ _ _=>rfl⟩
theorem Only.toP {F:List Nat} (h:Only F w w') (y:∀ x∈F,S x\/w.heap.size<=x):aI S w w':=
 ⟨h.os,h.tape,h.output,h.size,fun k d z=>h.block k d (fun hm=>by rcases y k hm with h1|h1;exact z h1;omega)⟩
theorem Only.xA (h:Only [] w w'):aI S w w':=h.toP (by simp)
theorem aI.trans (h:aI S a b) (k:aI S' b w) (d:∀ x,S' x->S x\/a.heap.size<=x):aI S a w:=
 ⟨k.os.trans h.os,k.tape.trans h.tape,k.output.trans h.output,Nat.le_trans h.size k.size,fun i z y=>by
  rw [k.block i (Nat.lt_of_lt_of_le z h.size) (fun e=>by rcases d i e with h1|h1;exact y h1;omega)];exact h.block i z y⟩
theorem aI.mono (h:aI S w w') (y:∀ x,S x->S' x\/w.heap.size<=x):aI S' w w':=(aI.refl S' w).trans h y
theorem aI.drew (h:aI S a w):aI S a w.drew:=⟨h.os,h.tape,h.output,h.size,h.block⟩
theorem aI.drewN (h:aI S a w) (n:Nat):aI S a (w.drewN n):=⟨h.os,h.tape,h.output,h.size,h.block⟩
theorem aI.set (h:aI S a w) {p:Addr} (y:S p.block\/a.heap.size<=p.block) (v:Value):aI S a (w.setCell p v):=
 ⟨h.os,h.tape,h.output,by simpa [World.setCell] using h.size,fun k d z=>by
  rw [Below.heap_setCell _ _ _ _ (by rintro rfl;rcases y with y|y;exact z y;omega)];exact h.block k d z⟩
theorem aI.alloc (h:aI S a w) (o:Obj):aI S a (w.alloc o):=
 ⟨h.os,h.tape,h.output,by have:=h.size;simp;omega,fun k y z=>by rw [Below.heap_alloc _ _ _ (Nat.lt_of_lt_of_le y h.size)];exact h.block k y z⟩
theorem aI.row (h:aI S w w') {b T:Nat} {cs:List Value} (y:Row w b T cs) (hb:¬ S b):Row w' b T cs:=by
 have:=y.lt;unfold Row at*;rw [h.block b this hb];exact y
theorem aI.cell (h:aI S w w') {a:Addr} {v:Value} (y:w.cell? a=some v) (d:¬ S a.block):w'.cell? a=some v:=by
 have z:=World.block_lt_of_cell? w _ y;simp only [World.cell?] at y ⊢;rw [h.block a.block z d];exact y
theorem aI.grown (h:aI S a w) {z:Option Nat} (y:w.grownBy w' z) (hr:∀ k,z=some k->S k\/a.heap.size<=k):aI S a w':=
 ⟨y.os.trans h.os,y.tape.trans h.tape,y.output.trans h.output,Nat.le_trans h.size y.size,fun k hk d=>by
  rw [y.block k (Nat.lt_of_lt_of_le hk h.size) (fun e=>by rcases hr k e.symm with h1|h1;exact d h1;omega)];exact h.block k hk d⟩
theorem aI.setCells (h:aI S a w) {b:Nat} (z:S b\/a.heap.size<=b):∀ (y:List Value) (o:Nat),aI S a (w.setCells b o y):=by
 intro y
 induction y generalizing w with
 | nil=>intro o;exact h
 | cons v r d=>intro o;exact d (h.set (p:=⟨b,o,none⟩) z v) (o+1)
theorem aK.dA {base:Nat} {v:Value} {l:List Int} (h:aK w base v l) (hg:aI S w w') (hF:∀ k,v.ownBlock=some k->¬ S k):aK w' base v l:=by
 refine ⟨h.1,?_⟩;rcases h.2 with e|⟨g,cap,y,d,hb,z,r⟩
 ·exact .inl e
 exact .inr ⟨g,cap,y,d,hb,by rw [hg.block g (Array.getElem?_eq_some_iff.1 z).1 (hF g (by rw [d];rfl))];exact z,r⟩
end
def mkP:Option Nat->Value|some b=>.pointer (some ⟨b,0,none⟩)|none=>.pointer none
def aLl:Option Nat->DataW Unit|some b=>.lit (.int .i64 b)|none=>.nil
def dR:Value->Option (DataW Unit×List MemPlace)
 | .pointer none=>some (.nil,[])
 | .pointer (some ⟨b,0,none⟩)=>some (.lit (.int .i64 b),[])
 | _=>none
theorem aGU (o:Option Nat):dR (mkP o)=some (aLl o,[]):=by cases o<;>rfl
theorem pV {v:Value} {y:DataW Unit×List MemPlace} (h:dR v=some y):∃ o,v=mkP o/\y=(aLl o,[]):=by
 unfold dR at h;split at h
 ·cases h;exact ⟨none,rfl,rfl⟩
 ·rename_i b;cases h;exact ⟨some b,rfl,rfl⟩
 cases h
theorem aBR {a b:Option Nat} (h:aLl a=aLl b):a=b:=by
 cases a<;>cases b<;>simp_all [aLl]
 omega
theorem aOG {a b:Option Nat} (h:mkP a=mkP b):a=b:=by
 cases a<;>cases b<;>simp_all [mkP]
abbrev wfI (k:Int):Prop:=(Lit.int .i64 k).wf=true
theorem dL {k:Int} (h : -9223372036854775808<=k/\k<=9223372036854775807):wfI k:=WalkArith.wf_i64 h
theorem jI:Maps.Keyed prog 3:=Maps.int_keyed Tryz.underlying3
theorem aNF {k:Int} (h:wfI k):keyOf prog 3 (.int .i64 k)=some (.int .i64 k):=Maps.keyOf_int_mk Tryz.underlying3 h
theorem aDc (k:Int) (h:wfI k):WideAt.IsKeyLit (.int .i64 k):=jI.key (aNF h)
def dO (w:World) (y n:Nat) (f:Int->Option Nat):Prop:=
 ∃ D:DataW Unit,w.ownsMap prog 3 dR y n D/\∀ k,wfI k->Maps.has D (.int .i64 k)=(f k).isSome/\∀ b,f k=some b->∀ z,D.atKey (.int .i64 k) z=.lit (.int .i64 b)
theorem aIy (w:World):(zeroValue 172).run prog w=.ok (.pointer none) w:=by kernel_rfl
section
variable {w w':World} {mb n:Nat} {f:Int->Option Nat}
theorem dO.lt (h:dO w mb n f):mb<w.heap.size:=by obtain ⟨D,h,_⟩:=h;exact h.lt
theorem dO.only {S:Nat->Prop} (h:dO w mb n f) (hg:aI S w w') (hS:¬ S mb):dO w' mb n f:=by
 obtain ⟨D,d,hf⟩:=h;have z:=d.lt;obtain ⟨e,y,hb,r⟩:=d;exact ⟨D,⟨e,y,(hg.block mb z hS).trans hb,r⟩,hf⟩
theorem dO.mono (h:dO w mb n f) {m:Nat} (d:n<=m):dO w mb m f:=by
 obtain ⟨D,y,z⟩:=h;exact ⟨D,y.mono d,z⟩
theorem dO.look (h:dO w mb n f) {k:Int} (hk:wfI k):(Instr.lookup 173 (.map (some mb)) (.int .i64 k) false).run prog w=.ok (mkP (f k)) w:=by
 obtain ⟨D,hD,hf⟩:=h;obtain ⟨v,ps,z,hv⟩:=hD.lookup jI Tryz.underlying173 (aIy w) (zd:=.nil) (zp:=[]) rfl (aNF hk);obtain ⟨o,rfl,d⟩:=pV hv;rw [z];obtain ⟨e,h2⟩:=hf k hk
 cases y:f k with
 | none=>
  rw [y] at e;have h3:=Maps.atKey_of_not_has e (.nil:DataW Unit);rw [h3] at d;have:aLl o=aLl none:=(congrArg Prod.fst d).symm;rw [aBR this]
 | some b=>
  rw [h2 b y] at d;have:aLl o=aLl (some b):=(congrArg Prod.fst d).symm;rw [aBR this]
theorem dO.made (w:World):dO (w.alloc (.map #[] 0)) w.heap.size 0 (fun _=>none):=
 ⟨.map [],World.ownsMap_made _ _ _ _,fun k _=>⟨rfl,fun b h=>by cases h⟩⟩
theorem vP {j k:Int} (h:j≠k):Lit.int .i64 j≠Lit.int .i64 k:=fun e=>by cases e;exact h rfl
theorem dO.aOn {D:DataW Unit} (hm:Maps.IsMap D) (hf:∀ k,wfI k->Maps.has D (.int .i64 k)=(f k).isSome/\∀ b,f k=some b->∀ z,D.atKey (.int .i64 k) z=.lit (.int .i64 b)) {k:Int} (hk:wfI k) (b:Nat) :
  ∀ j,wfI j->Maps.has (D.put (.int .i64 k) (.lit (.int .i64 b))) (.int .i64 j)=((if j=k then some b else f j).isSome)/\∀ c,(if j=k then some b else f j)=some c->∀ z,(D.put (.int .i64 k) (.lit (.int .i64 b))).atKey (.int .i64 j) z=.lit (.int .i64 c):=by
 intro j y
 by_cases e:j=k
 ·subst e;rw [if_pos rfl];exact ⟨Maps.has_put_same hm (aDc j y) _,fun c d z=>by cases d;exact Maps.atKey_put_same hm (aDc j y) _ z⟩
 rw [if_neg e];refine ⟨by rw [Maps.has_put_other (vP e)];exact (hf j y).1,fun c d z=>?_⟩;rw [Maps.atKey_put_other (vP e)];exact (hf j y).2 c d z
theorem dO.store (h:dO w mb n f) (hn:n<1000000) {k:Int} (z:wfI k) (b:Nat):∃ w',(Instr.mapUpdate 173 (.map (some mb)) (.int .i64 k) (.pointer (some ⟨b,0,none⟩))).run prog w=.ok () w'/\
  dO w' mb (n+1) (fun j=>if j=k then some b else f j)/\w.grownBy w' (some mb):=by
 obtain ⟨D,y,hf⟩:=h;obtain ⟨w',d,e,h3⟩:=y.update jI Tryz.underlying173 (by simp only [maxLen];omega) (aNF z) (aGU (some b));exact ⟨w',d,⟨_,e,dO.aOn y.isMap hf z b⟩,h3⟩
end
def vZ (D:DataW Unit) (f:Int->Option Nat):Prop:=∀ k,wfI k->Maps.has D (.int .i64 k)=(f k).isSome/\∀ b,f k=some b->∀ z,D.atKey (.int .i64 k) z=.lit (.int .i64 b)
theorem aLS (j k:Int) (y:wfI k):(Lit.int .i64 j).sameKey (.int .i64 k)=decide (j=k):=by
 by_cases e:j=k
 ·subst e;rw [WideAt.sameKey_self (aDc j y)];simp
 rw [Maps.sameKey_ne (vP e)];simp [e]
theorem vZ.del {D:DataW Unit} {f:Int->Option Nat} (h:vZ D f) (k:Int):vZ (D.del (.int .i64 k)) (fun j=>if j=k then none else f j):=by
 intro j y
 by_cases e:j=k
 ·subst e;simp only [if_true];exact ⟨Maps.has_del_same,fun b hb=>by cases hb⟩
 simp only [e,if_false];refine ⟨by rw [Maps.has_del_other (vP e)];exact (h j y).1,fun b hb z=>?_⟩;rw [Maps.atKey_del_other (vP e)];exact (h j y).2 b hb z
theorem vZ.at {D:DataW Unit} {f:Int->Option Nat} (h:vZ D f) {k:Int} (hk:wfI k) {o:Option Nat} (y:∀ z,D.atKey (.int .i64 k) z=aLl o):∃ b,o=some b/\f k=some b:=by
 have h1:=Maps.has_true_of_atKey y
 obtain ⟨d,h3⟩:=h k hk;rw [h1] at d
 cases e:f k with
 | none=>rw [e] at d;cases d
 | some b=>
  have:=h3 b e .nil;rw [y] at this;exact ⟨b,aBR (a:=o) (b:=some b) this,rfl⟩
section
variable {w:World} {ops:Array Oper} {rest:List Oper} {o:Oper} {a:Act} {Q:Exit->Act->World->Prop}
theorem iF (hg:o.guard=none) (it:Operand) (x1:o.op=Op.next it false) (b r n:Nat) (D:DataW Unit) (d:Lit->Bool) (cnt:Nat) (f:Int->Option Nat) (hd:vZ D f)
  (h7:a.eval it=.pointer (some ⟨r,0,none⟩)) (h:w.ranges prog 3 dR b r n D d cnt)
  (h1:cnt=0->(∀ kl,d kl=false)->wpList prog ops Q rest (a.put o.dst (.tuple #[.bool false])) w)
  (h2:∀ (k:Int) (c:Nat) (w':World) (e:Nat),wfI k->d (.int .i64 k)=true->f k=some c->w'.ranges prog 3 dR b r n D (fun z=>d z && !z.sameKey (.int .i64 k)) e->e<cnt->
   w.grownBy w' (some r)->w'.heap.size=w.heap.size->(Instr.entry (.pointer (some ⟨r,0,none⟩))).run prog w'=.ok (.tuple #[.int .i64 k,.pointer (some ⟨c,0,none⟩)]) w'->wpList prog ops Q rest (a.put o.dst (.tuple #[.bool true,.int .i64 k,.pointer (some ⟨c,0,none⟩)])) w') :
  wpList prog ops Q (o :: rest) a w:=by
 refine wpList_next_ranges w hg it x1 3 jI dR (Value.int .i64) mkP (fun x4 kl h0=>by obtain ⟨x,rfl,_⟩:=Maps.keyOf_int_inv Tryz.underlying3 h0;exact ⟨x,rfl⟩) (fun v y hv=>by obtain ⟨c,rfl,_⟩:=pV hv;exact ⟨c,rfl⟩)
  b r n D d cnt h7 h h1 (fun x c kl y w' e h0 h8 hv h4 x2 h9 h6 x3 h5=>?_)
 obtain ⟨x',ex,rfl,h3⟩:=Maps.keyOf_int_inv Tryz.underlying3 h0
 cases ex
 obtain ⟨c',ec,rfl⟩:=pV hv;obtain rfl:=aOG ec;obtain ⟨bb,rfl,hf⟩:=hd.at h3 h4
 exact h2 x bb w' e h3 h8 hf x2 h9 h6 x3 h5
end
theorem xU {w w':World} {S:Nat->Prop} {b r n:Nat} {D:DataW Unit} {y:Lit->Bool} {cnt:Nat} (h:w.ranges prog 3 dR b r n D y cnt) (ho:aI S w w') (hb:¬ S b) (hr:¬ S r):w'.ranges prog 3 dR b r n D y cnt:=by
 have h1:=h.owns.lt;have h2:=h.lt;obtain ⟨es,z,d,h0,c0,h3,F,hs,hD,h4,e⟩:=h;exact ⟨es,z,d,h0,c0,(ho.block b h1 hb).trans h3,F,hs,hD,(ho.block r h2 hr).trans h4,e⟩
theorem dO.congr {w:World} {y n:Nat} {f g:Int->Option Nat} (h:dO w y n f) (z:∀ k,f k=g k):dO w y n g:=by
 rw [show g=f from (funext z).symm];exact h
section
variable {w:World} {m1 m2 n1 n2:Nat} {D1 D2:DataW Unit} {f1 f2:Int->Option Nat} {g:Int->Bool}
theorem aOT (d:w.ownsMap prog 3 dR m1 n1 D1) (y:vZ D1 f1) (z:vZ D2 f2) (h:∀ k,wfI k->(f1 k).isSome=true->(f2 k).isSome=true):∀ k,Maps.has D1 k=true->Maps.has D2 k=true:=fun k hk=>by
 obtain ⟨x,rfl,hx⟩:=pW d hk;rw [(z x hx).1];exact h x hx (by rw [<-(y x hx).1];exact hk)
end
theorem dO.tight {w w2:World} {mb n h4 m:Nat} {f f0:Int->Option Nat} (h:dO w mb n f) (h0:dO w2 h4 m f0) (hs:∀ k,wfI k->(f k).isSome=true->(f0 k).isSome=true):dO w mb m f:=by
 obtain ⟨D,e,hf⟩:=h;obtain ⟨D0,z,h3⟩:=h0;refine ⟨D,?_,hf⟩;have h1:=(aLL (e.canon jI) (z.canon jI) (aOT e hf h3 hs)).1;have h2:=z.size_le;obtain ⟨d,y,hb,F,hn,rfl⟩:=e;have e1:Maps.size (DataW.map ((d.toList.map (WideElems.rg prog 3 dR)).foldr DataW.insert []))=d.size:=by simp [Maps.size,length_sorted]
 exact ⟨d,y,hb,F,by omega,rfl⟩
theorem dO.bound {w:World} {mb n:Nat} {f:Int->Option Nat} (h:dO w mb n f) (hs:∀ k,(f k).isSome=true->1<=k/\k<=192):dO w mb 192 f:=by
 obtain ⟨D,hD,hf⟩:=h;refine ⟨D,?_,hf⟩;have c:=hD.canon jI;have h1:=(jT (pY c) (l2:=(List.range 192).map fun (i:Nat)=>Lit.int .i64 ((i:Int)+1)) (fun x hx=>by
  have d:=(lD c x).1 hx;obtain ⟨z,rfl,hz⟩:=pW hD d;have h2:=hs z (by rw [<-(hf z hz).1];exact d);exact List.mem_map.2 ⟨z.toNat - 1,by simp;omega,by congr 1;omega⟩)).1
 rw [rH c] at h1;simp only [List.length_map,List.length_range] at h1;obtain ⟨e,y,hb,F,hn,rfl⟩:=hD;have e1:Maps.size (DataW.map ((e.toList.map (WideElems.rg prog 3 dR)).foldr DataW.insert []))=e.size:=by simp [Maps.size,length_sorted]
 exact ⟨e,y,hb,F,by omega,rfl⟩
end Go.Proofs.YthflghdaejbdkaaGreat
namespace Go.Proofs.YthflghdaejbdkaaGreat
open _root_.Go.Proofs.Tryz (prog)
open Go.RowKit
set_option maxHeartbeats 1600000
set_option maxRecDepth 100000
set_option linter.unusedVariables false
def Bls (w:World) (base:Nat) (v:Value) (l:List Bool):Prop:=w.ownsRow base 4 1 v l.length (l.map (Value.bool))
theorem wP:(prog.info? 4).map (fun i=>(i.zero,i.size,i.bytes))=some (some (.bool false),1,1):=by kernel_rfl
theorem Bls.nil (w:World) (base:Nat):Bls w base (.slice none 0 0) []:=World.ownsRow_nil _ _ _ _
theorem Bls.drew {w:World} {base:Nat} {v:Value} {l:List Bool} (h:Bls w base v l):Bls w.drew base v l:=h
theorem Bls.alloc {w:World} {base:Nat} {v:Value} {l:List Bool} (h:Bls w base v l) (o:Obj):Bls (w.alloc o) base v l:=World.ownsRow.alloc h o
theorem Bls.base {w:World} {base b:Nat} {v:Value} {l:List Bool} (h:Bls w base v l) (hb:b<=base):Bls w b v l:=by
 refine ⟨h.1,?_⟩;rcases h.2 with z|⟨g,cap,y,e,d,r⟩
 ·exact .inl z
 exact .inr ⟨g,cap,y,e,Nat.le_trans hb d,r⟩
theorem Bls.form {w:World} {base:Nat} {v:Value} {l:List Bool} (h:Bls w base v l) :
  (v=.slice none 0 0/\l=[])\/∃ g cap,v=.slice (some ⟨g,0,none⟩) l.length cap/\base<=g/\g<w.heap.size/\l.length<=cap/\(∀ i,i<l.length->w.cell? ⟨g,i,none⟩=some (.bool (gB l i))):=by
 rcases h.2 with ⟨z,d⟩|⟨g,cap,h0,y,hg,hh,hc,hm,hs,ht⟩
 ·exact .inl ⟨z,List.eq_nil_of_length_eq_zero d⟩
 refine .inr ⟨g,cap,y,hg,(Array.getElem?_eq_some_iff.1 hh).1,hc,fun i hi=>?_⟩;have e:=World.ownsRow.cells h (g:=g) (by rw [y];rfl) i (.bool (gB l i)) (by simp [hi,gB]);rwa [show (⟨g,0,none⟩:Addr).add i=⟨g,i,none⟩ by unfold Addr.add;split<;>simp_all] at e
theorem Bls.len {w:World} {base:Nat} {v:Value} {l:List Bool} (h:Bls w base v l):∃ a cap,v=.slice a l.length cap:=by
 rcases h.form with ⟨y,z⟩|⟨g,cap,y,_⟩
 ·exact ⟨none,0,by rw [y,z];rfl⟩
 exact ⟨_,cap,y⟩
theorem Bls.only {w w':World} {base:Nat} {v:Value} {l:List Bool} {F:List Nat} (h:Bls w base v l) (hg:Only F w w') (hF:∀ k,v.ownBlock=some k->k∉F):Bls w' base v l:=by
 refine ⟨h.1,?_⟩;rcases h.2 with e|⟨g,cap,y,d,hb,z,r⟩
 ·exact .inl e
 exact .inr ⟨g,cap,y,d,hb,by rw [hg.block g (Array.getElem?_eq_some_iff.1 z).1 (hF g (by rw [d];rfl))];exact z,r⟩
theorem Bls.own {w:World} {base:Nat} {v:Value} {l:List Bool} (h:Bls w base v l):∀ k,v.ownBlock=some k->base<=k/\k<w.heap.size:=World.ownsRow.lt h
theorem aBb {w:World} {ops:Array Oper} {e:List Oper} {o:Oper} {a:Act} {Q:Exit->Act->World->Prop} (h7:o.guard=none) (s x:Operand)
  (ho:o.op=.call { callee:=.builtin .append,args:=#[s,x],argTypes:=#[50,50] })
  (base:Nat) (v:Value) (l:List Bool) (hs:a.eval s=v) (h6:Bls w base v l)
  (ad:Addr) (m c:Nat) (z:List Bool) (hx:a.eval x=.slice (some ad) m c) (hl:z.length=m) (h4:∀ j u,z[j]?=some u->w.cell? (ad.add j)=some (.bool u))
  (d:(l.length+m)*1<=140737488355328) (h0:base<=w.heap.size)
  (h:∀ v' w',Bls w' base v' (l ++ z)->Only v.ownBlock.toList w w'->(v'=.slice none 0 0↔v=.slice none 0 0/\m=0)->(v'.ownBlock=v.ownBlock\/v'.ownBlock=some w.heap.size)->wpList prog ops Q e (a.put o.dst v') w'):wpList prog ops Q (o :: e) a w:=by
 obtain ⟨i0,hi,h8,h9,x1⟩:=info_parts wP;refine bU h7 s x 50 ho base 4 i0 (.bool false) 1 1 Tryz.underlying50 hi h8 h9 x1 rfl (by decide) v l.length _ hs h6 ad m c (z.map (Value.bool)) hx (by simp [hl])
  (fun j u hu=>?_) (fun u hu=>?_) (by simp only [maxLen];omega) d h0 (fun v' w' h1 h2 h3 h5=>h v' w' ?_ ?_ h3 h5)
 ·simp only [List.getElem?_map,Option.map_eq_some_iff] at hu;obtain ⟨y,hy,rfl⟩:=hu;exact h4 j y hy
 ·simp only [List.mem_map] at hu;obtain ⟨y,_,rfl⟩:=hu;rfl
 ·unfold Bls;rw [List.length_append,hl,List.map_append];exact h1
 exact (Only.refl _ _).grown h2 (fun k hk=>.inl (by rw [hk];simp))
theorem uY {w:World} {ops:Array Oper} {z:List Oper} {o:Oper} {a:Act} {Q:Exit->Act->World->Prop} (h4:o.guard=none) (s x:Operand)
  (ho:o.op=.call { callee:=.builtin .append,args:=#[s,x],argTypes:=#[50,50] })
  (base:Nat) (v:Value) (l:List Bool) (hs:a.eval s=v) (h0:Bls w base v l)
  (b:Nat) (y:Bool) (hx:a.eval x=.slice (some ⟨b,0,none⟩) 1 1) (e:w.cell? ⟨b,0,none⟩=some (.bool y))
  (h3:l.length+1<=17592186044416) (d:base<=w.heap.size)
  (h:∀ v' w',Bls w' base v' (l ++ [y])->Only v.ownBlock.toList w w'->(v'.ownBlock=v.ownBlock\/v'.ownBlock=some w.heap.size)->wpList prog ops Q z (a.put o.dst v') w'):wpList prog ops Q (o :: z) a w:=by
 refine aBb h4 s x ho base v l hs h0 ⟨b,0,none⟩ 1 1 [y] hx rfl (fun j u hu=>?_) (by omega) d (fun v' w' h1 h2 _ h5=>h v' w' h1 h2 h5)
 cases j with
 | zero=>simp at hu;subst hu;exact e
 | succ j=>simp at hu
theorem aMp (n:Nat):(madeCells (Value.bool false).cells (n*1)).toList=List.replicate n (Value.bool false):=by
 apply List.ext_getElem
 ·simp [madeCells]
 intro i y z;simp [madeCells,Value.cells,Nat.mod_one]
theorem Bls.made (w:World):Bls (w.alloc (.cells #[] 4)) w.heap.size (.slice (some ⟨w.heap.size,0,none⟩) 0 0) []:=
 World.ownsRow_made w #[] 0 (Nat.le_refl _) (by simp [maxLen]) rfl
set_option maxHeartbeats 400000 in
theorem aHX (w:World):Calls prog 165 #[.slice none 0 0] w (aO w (.slice none 0 0)):=by
 have d:=fun (z:World)=>Lib.run_eql_slice_nil (P:=prog) z 50 4 none 0 0 0 0 Tryz.underlying50;refine aF fun R y=>?_;go_in;go_wp2;exact y.out _ _ ⟨rfl,rfl⟩
section
variable {S:Nat->Prop} {w w':World}
theorem Bls.dA {base:Nat} {v:Value} {l:List Bool} (h:Bls w base v l) (hg:aI S w w') (hF:∀ k,v.ownBlock=some k->¬ S k):Bls w' base v l:=by
 refine ⟨h.1,?_⟩;rcases h.2 with e|⟨g,cap,y,d,hb,z,r⟩
 ·exact .inl e
 exact .inr ⟨g,cap,y,d,hb,by rw [hg.block g (Array.getElem?_eq_some_iff.1 z).1 (hF g (by rw [d];rfl))];exact z,r⟩
end
end Go.Proofs.YthflghdaejbdkaaGreat
