/- Law CycleBounds: for every input the call returns true, and its arguments read behind it as they read before. -/
import Derived.Test.YthflghdaejbdkaaGreatRows
import Derived.Test.YthflghdaejbdkaaGreatXcLib
import Derived.Test.YthflghdaejbdkaaGreatXcCyBounds
import Derived.Test.YthflghdaejbdkaaGreatXcFCycleBoundsa
import Derived.Test.YthflghdaejbdkaaGreatXcFCycleBoundsb
import Derived.WalkKit
import Derived.ProofKit
import Derived.OpenShut
import Derived.ShutString
import Derived.ChangeOld
import Derived.Below
import Derived.Lib.SmallJoins
namespace Go.Proofs.YthflghdaejbdkaaGreat.lawCycleBounds
open Go.ChangeShapes Go.WideShapes Go.ChangeAt Go.RowKit
open Go.ChangeMaps (open_string shut_string)
open Go.Joins (open_agg3)
set_option linter.unusedVariables false
theorem own:ownKnob Tryz.prog.godebug=none:=by kernel_rfl
theorem laidOut:laidOutB Tryz.prog=true:=by kernel_rfl
set_option maxRecDepth 100000 in
theorem lifted (os:Os) (started:os.Started) (H:Type) (enc:TypeId×Value->H) :
  ReturnsInHanded {} Tryz.checked os 10 .any (Rows.cycleBoundsSpec.pre6 enc Tryz.prog Tryz.f10 Rows.cycleBoundsRow.domain false) (Rows.cycleBoundsSpec.post enc Tryz.prog Tryz.f10 false true false false):=by
 refine returnsInHanded_of_change (C:=Tryz.checked) own started (by kernel_rfl) Tryz.func10
  (ChangeSpec.witness6 (enc:=enc) (C:=Tryz.checked) false ⟨#[],#[.int .i64 0,.slice none 0 0,.int .i64 0,.slice none 0 0],[]⟩ 8 (by kernel_rfl) (by kernel_rfl) (by kernel_rfl) (by kernel_rfl)) ?_
 intro W base args ds gs before hval0 hW hcnd _;have hval:∀ (j:Nat) t v,Tryz.f10.params[j]?=some t->args[j]?=some v->Value.okWide Tryz.prog W .any base t v:=hval0;have hW':=hW;obtain ⟨p,q,hA0,hV,rfl,hfz,hnd⟩:=hW;have hA:DataW.TrodAll enc Tryz.prog W 0 (fun _=>true) true Tryz.f10.params.toList args.toList ds p:=hA0;rw [Tryz.params10] at hA hval;obtain ⟨v0,vs0,d0,ds0,p0,q0,hargs,rfl,rfl,h0,r0⟩:=trodAll_cons hA;obtain ⟨v1,vs1,d1,ds1,p1,q1,rfl,rfl,rfl,h1,r1⟩:=trodAll_cons r0;obtain ⟨v2,vs2,d2,ds2,p2,q2,rfl,rfl,rfl,h2,r2⟩:=trodAll_cons r1;obtain ⟨v3,vs3,d3,ds3,p3,q3,rfl,rfl,rfl,h3,r3⟩:=trodAll_cons r2;obtain ⟨rfl,rfl,rfl⟩:=trodAll_nil r3;obtain rfl:args=#[v0,v1,v2,v3]:=by cases args;simp_all
 obtain ⟨rfl,rfl⟩:=trodVars_none hV;obtain ⟨a0,rfl,rfl,rfl,w0⟩:=open_int Tryz.underlying3 (hval 0 3 v0 rfl rfl) h0;obtain ⟨a1,len1,cap1,rfl⟩:=okWide_slice Tryz.underlying59 (hval 1 59 v1 rfl rfl);have k1:=h1;have lt1:∀ x∈p1,x.block<W.heap.size:=by obtain ⟨m,hm⟩:=k1;exact DataW.trod_lt m _ _ _ hm
 obtain ⟨f1,w1⟩:∃ f,Recs 4 W a1 len1 f:=by
  obtain ⟨fuel,hf⟩:=h1;exact recs_of 4 Tryz.underlying59 Tryz.underlying80 rfl (by decide) (by kernel_rfl) (by kernel_rfl) (fun j f hj=>by match j,hj with|0,hj=>(cases hj;exact Tryz.underlying3)|1,hj=>(cases hj;exact Tryz.underlying3)|2,hj=>(cases hj;exact Tryz.underlying3)|3,hj=>(cases hj;exact Tryz.underlying3)|j+4,hj=>simp at hj) hf
 obtain ⟨a2,rfl,rfl,rfl,w2⟩:=open_int Tryz.underlying3 (hval 2 3 v2 rfl rfl) h2;obtain ⟨a3,len3,cap3,rfl⟩:=okWide_slice Tryz.underlying59 (hval 3 59 v3 rfl rfl);have k3:=h3;have lt3:∀ x∈p3,x.block<W.heap.size:=by obtain ⟨m,hm⟩:=k3;exact DataW.trod_lt m _ _ _ hm
 obtain ⟨f3,w3⟩:∃ f,Recs 4 W a3 len3 f:=by
  obtain ⟨fuel,hf⟩:=h3;exact recs_of 4 Tryz.underlying59 Tryz.underlying80 rfl (by decide) (by kernel_rfl) (by kernel_rfl) (fun j f hj=>by match j,hj with|0,hj=>(cases hj;exact Tryz.underlying3)|1,hj=>(cases hj;exact Tryz.underlying3)|2,hj=>(cases hj;exact Tryz.underlying3)|3,hj=>(cases hj;exact Tryz.underlying3)|j+4,hj=>simp at hj) hf
 clear hA0 hval0;refine (walk_CycleBounds a0 a1 len1 cap1 f1 a2 a3 len3 cap3 f3 W w0 w1 w2 w3).mono fun e W' ⟨he,bel⟩=>?_;subst he;exact ⟨_,rfl,_,_,_,[],_,[],hW',trodAll_mk1 (shut_bool Tryz.underlying4 _),(trodAll_cons_mk (shut_int Tryz.underlying3 w0) (trodAll_cons_mk (Below.trod laidOut (by kernel_rfl) (of_decide_eq_true (by kernel_rfl)) k1 bel lt1) (trodAll_cons_mk (shut_int Tryz.underlying3 w2) (trodAll_cons_mk (Below.trod laidOut (by kernel_rfl) (of_decide_eq_true (by kernel_rfl)) k3 bel lt3) trodAll_mk0)))),rfl,bel.frame _,fun h=>by cases h⟩
set_option maxHeartbeats 4000000 in
theorem holds:Rows.CycleBoundsSaid:=
 OpenClaim.holds_of_wide 10 Tryz.f10 rfl rfl rfl rfl rfl rfl rfl ⟨rfl,rfl,rfl,rfl,rfl⟩ rfl rfl rfl rfl rfl (by kernel_rfl) Tryz.func10 (by
   unfold joinedFacts
   repeat' (with_reducible refine Bool.and_eq_true_iff.2 ⟨?_,?_⟩)
   ·as_aux_lemma=>kernel_rfl
   ·as_aux_lemma=>kernel_rfl
   ·as_aux_lemma=>kernel_rfl
   ·as_aux_lemma=>kernel_rfl
   ·as_aux_lemma=>kernel_rfl
   ·as_aux_lemma=>kernel_rfl
   ·as_aux_lemma=>kernel_rfl
   ·as_aux_lemma=>kernel_rfl
   ·as_aux_lemma=>kernel_rfl
   ·exact factCycleBoundsa0
   ·exact factCycleBoundsa1
   ·exact factCycleBoundsa2
   ·exact factCycleBoundsa3
   ·as_aux_lemma=>kernel_rfl
   ·as_aux_lemma=>kernel_rfl
   ·as_aux_lemma=>kernel_rfl
   ·as_aux_lemma=>kernel_rfl
   ·as_aux_lemma=>kernel_rfl
   ·as_aux_lemma=>kernel_rfl
   ·as_aux_lemma=>kernel_rfl
   ·as_aux_lemma=>kernel_rfl
   ·as_aux_lemma=>kernel_rfl
   ·as_aux_lemma=>kernel_rfl
   ·as_aux_lemma=>kernel_rfl
   ·as_aux_lemma=>kernel_rfl
   ·exact factCycleBoundsb0
   ·exact factCycleBoundsb1
   ·exact factCycleBoundsb2
   all_goals as_aux_lemma=>kernel_rfl)
  (of_decide_eq_true (by kernel_rfl)) (by unfold Func.isWrapper;first|(rw [if_pos (by decide+kernel)];kernel_rfl)|(rw [if_neg (by decide+kernel)];exact ⟨rfl,rfl⟩))
  (fun os started H enc _=>lifted os started H enc)
end Go.Proofs.YthflghdaejbdkaaGreat.lawCycleBounds
