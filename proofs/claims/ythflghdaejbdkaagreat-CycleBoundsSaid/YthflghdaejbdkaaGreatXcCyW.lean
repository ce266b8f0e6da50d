/- Lemmas of this claim. -/
import Derived.Test.YthflghdaejbdkaaGreatXcCyU
namespace Go.Proofs.YthflghdaejbdkaaGreat
open _root_.Go.Proofs.Tryz (prog)
open Go.RowKit Go.Maps
set_option maxHeartbeats 6400000
set_option maxRecDepth 100000
set_option linter.unusedVariables false
def aIq (w0:World) (l:List Asn) (b:Nat) (c:Co) (x:CX) (e:Ending) (w':World):Prop:=e=.returned (.tuple #[.int .i64 c.step.1,.int .i64 c.step.2.1])/\Fam w0 w' (C5 b c x ++ l)
section
variable {w0 w:World} {l:List Asn} {b:Nat} {c:Co} {x:CX} {i:Nat}
theorem aPK (W:World) (v:Value):(Instr.typeAssert (.iface 157 v) 153 157 true).run prog W=.ok (.tuple #[v,.bool true]) W:=by kernel_rfl
theorem aRF (W:World) (v:Value):(Instr.typeAssert (.iface 160 v) 153 157 true).run prog W=.ok (.tuple #[.agg #[],.bool false]) W:=by kernel_rfl
theorem aRG (W:World) (v:Value):(Instr.typeAssert (.iface 160 v) 153 160 true).run prog W=.ok (.tuple #[v,.bool true]) W:=by kernel_rfl
theorem aLB (W:World) (v:Value):(Instr.typeAssert (.iface 163 v) 153 157 true).run prog W=.ok (.tuple #[.agg #[],.bool false]) W:=by kernel_rfl
theorem aLC (W:World) (v:Value):(Instr.typeAssert (.iface 163 v) 153 160 true).run prog W=.ok (.tuple #[.agg #[.int .i64 0],.bool false]) W:=by kernel_rfl
theorem aLD (W:World) (v:Value):(Instr.typeAssert (.iface 163 v) 153 163 true).run prog W=.ok (.tuple #[v,.bool true]) W:=by kernel_rfl
theorem aRC (W:World) (v:Value):(Instr.typeAssert (.iface 218 v) 153 157 true).run prog W=.ok (.tuple #[.agg #[],.bool false]) W:=by kernel_rfl
theorem aRD (W:World) (v:Value):(Instr.typeAssert (.iface 218 v) 153 160 true).run prog W=.ok (.tuple #[.agg #[.int .i64 0],.bool false]) W:=by kernel_rfl
theorem aRE (W:World) (v:Value):(Instr.typeAssert (.iface 218 v) 153 163 true).run prog W=.ok (.tuple #[.agg #[.int .i64 0],.bool false]) W:=by kernel_rfl
theorem aRz (W:World) (v:Value):(Instr.typeAssert (.iface 219 v) 153 157 true).run prog W=.ok (.tuple #[.agg #[],.bool false]) W:=by kernel_rfl
theorem aRA (W:World) (v:Value):(Instr.typeAssert (.iface 219 v) 153 160 true).run prog W=.ok (.tuple #[.agg #[.int .i64 0],.bool false]) W:=by kernel_rfl
theorem aRB (W:World) (v:Value):(Instr.typeAssert (.iface 219 v) 153 163 true).run prog W=.ok (.tuple #[.agg #[.int .i64 0],.bool false]) W:=by kernel_rfl
theorem aCN {m:Mk}:m.next=(m.step.1,m.step.2.1):=by unfold Mk.next Mk.step;cases m.list<;>rfl
theorem aNp (w:World) (z:Fam w0 w (C5 b c x ++ l)) (hx:x.ok c) (h:c.Okc) (d:c.ph=1) (hl:c.m.list=[]):Calls prog 42 #[.pointer (some ⟨b,0,none⟩)] w (aIq w0 l b c x):=by
 refine aF fun R hR=>?_;obtain ⟨_,_,x2,_,_,x5,_⟩:=dB.cells z;have cn:=aJ w x2;have y:=bP w z h hx (by omega);unfold Co.kJ at y;rw [if_pos d,if_pos hl] at y;rw [d] at x5;have HF:=aA z;have HX:=aA hx;have HH:=aA h;have a0:=fun (W:World) (v:Value)=>aLB W v;have a1:=fun (W:World) (v:Value)=>aLC W v;have a2:=fun (W:World) (v:Value)=>aLD W v;have HR:Hid (∀ w',Fam w0 w' (C5 b c x ++ l)->R (.returned (.tuple #[.int .i64 (1),.int .i64 0])) w'):=fun w' h2=>hR.out _ _ ⟨by rw [aIT d hl];rfl,h2⟩;clear z hx h hR d hl;go_in;go_wp2_with fail;refine cn.mono ?_;rintro e _ ⟨rfl,rfl⟩;clear cn;go_wp2_with fail;refine y.mono ?_;rintro e _ ⟨rfl,k,rfl⟩;have F1:=aA (HF.out.drewN k);generalize w.drewN k=w1 at*;have F2:=aA (C5.alloc F1.out (.cells #[.int .i64 2] 163));clear y;go_wp2_with fail;exact HR.out _ F2.out
theorem aNo (w:World) (hf:Fam w0 w (C5 b c x ++ l)) (hx:x.ok c) (h:c.Okc) (z:c.ph=1) (hl:¬ c.m.list=[]):Calls prog 42 #[.pointer (some ⟨b,0,none⟩)] w (aIq w0 l b c x):=by
 refine aF fun R hR=>?_;obtain ⟨_,_,x2,_,_,x5,_⟩:=dB.cells hf;have cn:=aJ w x2;have d:=bP w hf h hx (by omega);unfold Co.kJ at d;rw [if_pos z,if_neg hl] at d;rw [z] at x5;have HF:=aA hf;have HX:=aA hx;have HH:=aA h;have a0:=fun (W:World) (v:Value)=>aPK W v;have HW:=aA (aBk (h.mo (.inl z)));have h0:=fF h.hf.ok c.m.step.1;have HR:Hid (∀ w',Fam w0 w' (C5 b c x ++ l)->R (.returned (.tuple #[.int .i64 (1+c.m.M.len c.m.step.1),.int .i64 0])) w'):=fun w' h2=>hR.out _ _ ⟨by rw [aIS z hl];rfl,h2⟩;clear hf hx h hR z hl;go_in;go_wp2_with fail;refine cn.mono ?_;rintro e _ ⟨rfl,rfl⟩;clear cn;go_wp2_with fail;refine d.mono ?_;rintro e _ ⟨rfl,k,rfl⟩;have F1:=aA (HF.out.drewN k);generalize w.drewN k=w1 at*;have y:=aA (C5.alloc F1.out (.cells #[] 157));obtain ⟨_,_,_,_,z4,_⟩:=dB.cells y.out;have cm:=yL _ (C5.t2 (b:=b) (c:=c) (x:=x) (l:=l)) (hb:=x.hb) (p:=x.p) (m:=c.m) y.out;rw [aCN] at cm;clear d;go_upto_region 5 with fail;generalize w1.alloc (.cells #[] 157)=w2 at*;go_wp2_with fail;refine cm.mono ?_;rintro e _ ⟨rfl,rfl⟩;have cl:=kC w2 y.out c.m.step.1 HW.out;clear cm F1;generalize c.m.M.len c.m.step.1=n at*;go_wp2_with fail;refine cl.mono ?_;rintro e _ ⟨rfl,k2,rfl⟩;have F3:=aA (y.out.drewN k2);clear cl y;go_wp2_with fail;exact HR.out _ F3.out
theorem aNn (w:World) (hf:Fam w0 w (C5 b c x ++ l)) (hx:x.ok c) (h:c.Okc) (hp:c.ph=2) (hl:c.t.ph≠0):Calls prog 42 #[.pointer (some ⟨b,0,none⟩)] w (aIq w0 l b c x):=by
 refine aF fun R hR=>?_;obtain ⟨_,_,x2,_,_,x5,_⟩:=dB.cells hf;have cn:=aJ w x2;have cx:=bP w hf h hx (by omega);unfold Co.kJ at cx;rw [if_neg (show ¬ c.ph=1 by omega),if_pos hp,if_pos hl] at cx;rw [hp] at x5;have HF:=aA hf;have HX:=aA hx;have HH:=aA h;have a0:=fun (W:World) (v:Value)=>aRC W v;have a1:=fun (W:World) (v:Value)=>aRD W v;have a2:=fun (W:World) (v:Value)=>aRE W v;have HR:Hid (∀ w',Fam w0 w' (C5 b c x ++ l)->R (.returned (.tuple #[.int .i64 c.step.1,.int .i64 c.step.2.1])) w'):=fun w' h2=>hR.out _ _ ⟨rfl,h2⟩;clear hf hx h hR hp hl;go_in;go_wp2_with fail;refine cn.mono ?_;rintro e _ ⟨rfl,rfl⟩;clear cn;go_wp2_with fail;refine cx.mono ?_;rintro e _ ⟨rfl,k,rfl⟩;have F1:=aA (HF.out.drewN k);generalize w.drewN k=w1 at*;have cc:=zY w1 F1.out HX.out HH.out;clear cx;go_wp2_with fail;refine cc.mono ?_;rintro e w2 ⟨b2,rfl,x2,d,y⟩;have cs:=jZ w2 y d HH.out;clear cc d y F1;go_wp2_with fail;refine cs.mono ?_;rintro e w3 ⟨rfl,x3,_,z⟩;have F3:=aA (Fam.rest z);clear cs z;go_wp2_with fail;exact HR.out _ F3.out
theorem aNm (w:World) (z:Fam w0 w (C5 b c x ++ l)) (hx:x.ok c) (h:c.Okc) (d:c.ph=2) (ht:c.t.ph=0) (hl:c.m.list=[]):Calls prog 42 #[.pointer (some ⟨b,0,none⟩)] w (aIq w0 l b c x):=by
 refine aF fun R hR=>?_;obtain ⟨_,_,x2,_,_,x5,_⟩:=dB.cells z;have cn:=aJ w x2;have y:=bP w z h hx (by omega);unfold Co.kJ at y;rw [if_neg (show ¬ c.ph=1 by omega),if_pos d,if_neg (fun e=>e ht),if_pos hl] at y;rw [d] at x5;have HF:=aA z;have HX:=aA hx;have HH:=aA h;have a0:=fun (W:World) (v:Value)=>aLB W v;have a1:=fun (W:World) (v:Value)=>aLC W v;have a2:=fun (W:World) (v:Value)=>aLD W v;have HR:Hid (∀ w',Fam w0 w' (C5 b c x ++ l)->R (.returned (.tuple #[.int .i64 (1),.int .i64 0])) w'):=fun w' h2=>hR.out _ _ ⟨by rw [aIR d ht hl];rfl,h2⟩;clear z hx h hR d hl ht;go_in;go_wp2_with fail;refine cn.mono ?_;rintro e _ ⟨rfl,rfl⟩;clear cn;go_wp2_with fail;refine y.mono ?_;rintro e _ ⟨rfl,k,rfl⟩;have F1:=aA (HF.out.drewN k);generalize w.drewN k=w1 at*;have F2:=aA (C5.alloc F1.out (.cells #[.int .i64 3] 163));clear y;go_wp2_with fail;exact HR.out _ F2.out
theorem aNl (w:World) (hf:Fam w0 w (C5 b c x ++ l)) (hx:x.ok c) (h:c.Okc) (z:c.ph=2) (ht:c.t.ph=0) (hl:¬ c.m.list=[]):Calls prog 42 #[.pointer (some ⟨b,0,none⟩)] w (aIq w0 l b c x):=by
 refine aF fun R hR=>?_;obtain ⟨_,_,x2,_,_,x5,_⟩:=dB.cells hf;have cn:=aJ w x2;have d:=bP w hf h hx (by omega);unfold Co.kJ at d;rw [if_neg (show ¬ c.ph=1 by omega),if_pos z,if_neg (fun e=>e ht),if_neg hl] at d;rw [z] at x5;have HF:=aA hf;have HX:=aA hx;have HH:=aA h;have a0:=fun (W:World) (v:Value)=>aPK W v;have HW:=aA (aBk (h.mo (.inr z)));have h0:=fF h.hf.ok c.m.step.1;have HR:Hid (∀ w',Fam w0 w' (C5 b c x ++ l)->R (.returned (.tuple #[.int .i64 (1+c.m.M.len c.m.step.1),.int .i64 0])) w'):=fun w' h2=>hR.out _ _ ⟨by rw [aIQ z ht hl];rfl,h2⟩;clear hf hx h hR z hl ht;go_in;go_wp2_with fail;refine cn.mono ?_;rintro e _ ⟨rfl,rfl⟩;clear cn;go_wp2_with fail;refine d.mono ?_;rintro e _ ⟨rfl,k,rfl⟩;have F1:=aA (HF.out.drewN k);generalize w.drewN k=w1 at*;have y:=aA (C5.alloc F1.out (.cells #[] 157));obtain ⟨_,_,_,_,z4,_⟩:=dB.cells y.out;have cm:=yL _ (C5.t2 (b:=b) (c:=c) (x:=x) (l:=l)) (hb:=x.hb) (p:=x.p) (m:=c.m) y.out;rw [aCN] at cm;clear d;go_upto_region 5 with fail;generalize w1.alloc (.cells #[] 157)=w2 at*;go_wp2_with fail;refine cm.mono ?_;rintro e _ ⟨rfl,rfl⟩;have cl:=kC w2 y.out c.m.step.1 HW.out;clear cm F1;generalize c.m.M.len c.m.step.1=n at*;go_wp2_with fail;refine cl.mono ?_;rintro e _ ⟨rfl,k2,rfl⟩;have F3:=aA (y.out.drewN k2);clear cl y;go_wp2_with fail;exact HR.out _ F3.out
theorem aNk (w:World) (z:Fam w0 w (C5 b c x ++ l)) (hx:x.ok c) (h:c.Okc) (d:c.ph=3) (hl:c.sw=[]):Calls prog 42 #[.pointer (some ⟨b,0,none⟩)] w (aIq w0 l b c x):=by
 refine aF fun R hR=>?_;obtain ⟨_,_,x2,_,_,x5,_⟩:=dB.cells z;have cn:=aJ w x2;have y:=bP w z h hx (by omega);unfold Co.kJ at y;rw [if_neg (show ¬ c.ph=1 by omega),if_neg (show ¬ c.ph=2 by omega),if_pos d,hl] at y;rw [d] at x5;have HF:=aA z;have HX:=aA hx;have HH:=aA h;have a0:=fun (W:World) (v:Value)=>aLB W v;have a1:=fun (W:World) (v:Value)=>aLC W v;have a2:=fun (W:World) (v:Value)=>aLD W v;have HR:Hid (∀ w',Fam w0 w' (C5 b c x ++ l)->R (.returned (.tuple #[.int .i64 (1),.int .i64 0])) w'):=fun w' h2=>hR.out _ _ ⟨by rw [aIP d hl],h2⟩;clear z hx h hR d hl;go_in;go_wp2_with fail;refine cn.mono ?_;rintro e _ ⟨rfl,rfl⟩;clear cn;go_wp2_with fail;refine y.mono ?_;rintro e _ ⟨rfl,k,rfl⟩;have F1:=aA (HF.out.drewN k);generalize w.drewN k=w1 at*;have F2:=aA (C5.alloc F1.out (.cells #[.int .i64 4] 163));clear y;go_wp2_with fail;exact HR.out _ F2.out
theorem aNj (w:World) (hf:Fam w0 w (C5 b c x ++ l)) (hx:x.ok c) (h:c.Okc) (d:c.ph=3) {y:Int} {r:List Int} (hl:c.sw=y :: r):Calls prog 42 #[.pointer (some ⟨b,0,none⟩)] w (aIq w0 l b c x):=by
 refine aF fun R hR=>?_;obtain ⟨_,_,x2,_,_,x5,_⟩:=dB.cells hf;have cn:=aJ w x2;have cx:=bP w hf h hx (by omega);unfold Co.kJ at cx;rw [if_neg (show ¬ c.ph=1 by omega),if_neg (show ¬ c.ph=2 by omega),if_pos d,hl] at cx;rw [d] at x5;have HF:=aA hf;have HX:=aA hx;have HH:=aA h;have a0:=fun (W:World) (v:Value)=>aRF W v;have a1:=fun (W:World) (v:Value)=>aRG W v;have HW:Hid (wfI y):=aIA (h.hf.ok.inR (h.su y (by rw [hl];exact List.mem_cons_self)));have h4:=kS h.hf.ok y;have HR:Hid (∀ w',Fam w0 w' (C5 b c x ++ l)->R (.returned (.tuple #[.int .i64 (1+((c.m.M.blocks y).1.length:Int)),.int .i64 0])) w'):=fun w' h2=>hR.out _ _ ⟨by rw [aIO d hl,Co.free,hl],h2⟩;clear hf hx h hR d hl;go_in;go_wp2_with fail;refine cn.mono ?_;rintro e _ ⟨rfl,rfl⟩;clear cn;go_wp2_with fail;refine cx.mono ?_;rintro e _ ⟨rfl,k,rfl⟩;have F1:=aA (HF.out.drewN k);generalize w.drewN k=w1 at*;have z:Hid (Fam w0 (w1.alloc (.cells #[.int .i64 y] 160)) (C5 b c x ++ (l ++ [eG w1.heap.size 160 [.int .i64 y]]))):=F1.out.addRow 160 [.int .i64 y];clear cx;go_upto_region 9 with fail;obtain ⟨g,hg⟩:∃ g,g=w1.heap.size:=⟨_,rfl⟩;rw [<-hg] at z ⊢;generalize w1.alloc (.cells #[.int .i64 y] 160)=w2 at*;clear hg F1;have HC:Hid (∀ wx,Only [] w2 wx->Calls prog 115 #[.pointer (some ⟨x.hb,0,none⟩),.int .i64 y] wx (aNO wx (c.m.M.blocks y))):=fun wx ho=>by
  obtain ⟨hk,L,X,d⟩:=C5.ph (z.out.aN ho);exact oZ wx d hk y HW.out
 generalize h1:(c.m.M.blocks y).1.length=bn at*;have h3:=aA h1;clear h1;have h0:Hid (Only [] w2 w2.drew):=(Only.refl [] w2).drew;go_region_held3 (fun w'=>w'.cell? ⟨b,2,none⟩=some (.pointer (some ⟨x.hb,0,none⟩))/\w'.cell? ⟨g,0,none⟩=some (.int .i64 y))
  (first|(exact ⟨(C5.row z.out).cell 2 rfl,(C5.last z.out).cell 0 rfl⟩)|(exact ⟨(C5.row F3.out).cell 2 rfl,(C5.last F3.out).cell 0 rfl⟩))
  (first|(go_at_call 115;refine (HC.out _ h0.out).mono ?_;rintro e w3 ⟨v,rfl,hi,ho⟩;obtain ⟨va,vc,rfl⟩:=hi.len;rw [h3.out] at*;have F3:=aA (z.out.drew.aN ho);clear hi ho))
 have F4:Hid (Fam w0 w3 (C5 b c x ++ l)):=by
  have f4:Fam w0 w3 ((C5 b c x ++ l) ++ [eG g 160 [.int .i64 y]]):=F3.out;exact f4.pop
 clear HC z h0 F3;go_wp2_with fail;exact HR.out _ F4.out
theorem aNi (w:World) (z:Fam w0 w (C5 b c x ++ l)) (hx:x.ok c) (h:c.Okc) (hp:c.ph=4) (d:c.mv=8*c.pages):Calls prog 42 #[.pointer (some ⟨b,0,none⟩)] w (aIq w0 l b c x):=by
 refine aF fun R hR=>?_;obtain ⟨_,_,x2,_,_,x5,_⟩:=dB.cells z;have cn:=aJ w x2;have y:=bP w z h hx (by omega);unfold Co.kJ at y;rw [if_neg (show ¬ c.ph=1 by omega),if_neg (show ¬ c.ph=2 by omega),if_neg (show ¬ c.ph=3 by omega),if_pos d] at y;rw [hp] at x5;have HF:=aA z;have HX:=aA hx;have HH:=aA h;have a0:=fun (W:World) (v:Value)=>aLB W v;have a1:=fun (W:World) (v:Value)=>aLC W v;have a2:=fun (W:World) (v:Value)=>aLD W v;have HR:Hid (∀ w',Fam w0 w' (C5 b c x ++ l)->R (.returned (.tuple #[.int .i64 (1),.int .i64 0])) w'):=fun w' h2=>hR.out _ _ ⟨by rw [aIN hp d],h2⟩;clear z hx h hR hp d;go_in;go_wp2_with fail;refine cn.mono ?_;rintro e _ ⟨rfl,rfl⟩;clear cn;go_wp2_with fail;refine y.mono ?_;rintro e _ ⟨rfl,k,rfl⟩;have F1:=aA (HF.out.drewN k);generalize w.drewN k=w1 at*;have F2:=aA (C5.alloc F1.out (.cells #[.int .i64 0] 163));clear y;go_wp2_with fail;exact HR.out _ F2.out
theorem aNh (w:World) (hf:Fam w0 w (C5 b c x ++ l)) (hx:x.ok c) (h:c.Okc) (hp:c.ph=4) (hl:¬ c.mv=8*c.pages):Calls prog 42 #[.pointer (some ⟨b,0,none⟩)] w (aIq w0 l b c x):=by
 refine aF fun R hR=>?_;obtain ⟨_,_,x2,_,_,x5,_⟩:=dB.cells hf;have cn:=aJ w x2;have cx:=bP w hf h hx (by omega);unfold Co.kJ at cx;rw [if_neg (show ¬ c.ph=1 by omega),if_neg (show ¬ c.ph=2 by omega),if_neg (show ¬ c.ph=3 by omega),if_neg hl] at cx;rw [hp] at x5;have HF:=aA hf;have HX:=aA hx;have HH:=aA h;have a0:=fun (W:World) (v:Value)=>aRz W v;have a1:=fun (W:World) (v:Value)=>aRA W v;have a2:=fun (W:World) (v:Value)=>aRB W v;have HR:Hid (∀ w',Fam w0 w' (C5 b c x ++ l)->R (.returned (.tuple #[.int .i64 c.step.1,.int .i64 c.step.2.1])) w'):=fun w' h2=>hR.out _ _ ⟨rfl,h2⟩;clear hf hx h hR hp hl;go_in;go_wp2_with fail;refine cn.mono ?_;rintro e _ ⟨rfl,rfl⟩;clear cn;go_wp2_with fail;refine cx.mono ?_;rintro e _ ⟨rfl,k,rfl⟩;have F1:=aA (HF.out.drewN k);generalize w.drewN k=w1 at*;have cc:=zY w1 F1.out HX.out HH.out;clear cx;go_wp2_with fail;refine cc.mono ?_;rintro e w2 ⟨b2,rfl,x2,d,y⟩;have cs:=jZ w2 y d HH.out;clear cc d y F1;go_wp2_with fail;refine cs.mono ?_;rintro e w3 ⟨rfl,x3,_,z⟩;have F3:=aA (Fam.rest z);clear cs z;go_wp2_with fail;exact HR.out _ F3.out
theorem aPf (w:World) (hf:Fam w0 w (C5 b c x ++ l)) (hx:x.ok c) (h:c.Okc) (hp:c.ph=0):Calls prog 42 #[.pointer (some ⟨b,0,none⟩)] w (aIq w0 l b c x):=by
 refine aF fun R hR=>?_;obtain ⟨_,_,x2,_,_,x5,_⟩:=dB.cells hf;have cn:=aJ w x2;rw [hp] at x5;have HH:=aA h;have cc:=zY w hf hx h;have HR:Hid (∀ w',Fam w0 w' (C5 b c x ++ l)->R (.returned (.tuple #[.int .i64 c.step.1,.int .i64 c.step.2.1])) w'):=fun w' h2=>hR.out _ _ ⟨rfl,h2⟩;clear hf hx h hR hp;go_in;go_wp2_with fail;refine cn.mono ?_;rintro e _ ⟨rfl,rfl⟩;clear cn;go_wp2_with fail;refine cc.mono ?_;rintro e w2 ⟨b2,rfl,x2,d,y⟩;have cs:=jZ w2 y d HH.out;clear cc d y;go_wp2_with fail;refine cs.mono ?_;rintro e w3 ⟨rfl,x3,_,z⟩;have F3:=aA (Fam.rest z);clear cs z;go_wp2_with fail;exact HR.out _ F3.out
theorem aDO (w:World) (e:Fam w0 w (C5 b c x ++ l)) (hx:x.ok c) (h:c.Okc):Calls prog 42 #[.pointer (some ⟨b,0,none⟩)] w (aIq w0 l b c x):=by
 rcases qW h with z|z|z|z|z
 ·exact aPf w e hx h z
 ·by_cases d:c.m.list=[]
  ·exact aNp w e hx h z d
  exact aNo w e hx h z d
 ·by_cases ht:c.t.ph=0
  ·by_cases d:c.m.list=[]
   ·exact aNm w e hx h z ht d
   exact aNl w e hx h z ht d
  exact aNn w e hx h z ht
 ·cases d:c.sw with
  | nil=>exact aNk w e hx h z d
  | cons y r=>exact aNj w e hx h z d
 by_cases d:c.mv=8*c.pages
 ·exact aNi w e hx h z d
 exact aNh w e hx h z d
end
def gY (w0:World) (l:List Asn) (b:Nat) (r:Int×Int×Co) (e:Ending) (w':World):Prop:=e=.returned (.tuple #[.int .i64 r.1,.int .i64 r.2.1])/\∃ y:CX,y.ok r.2.2/\Fam w0 w' (C5 b r.2.2 y ++ l)
section
variable {w0 w:World} {l:List Asn} {b:Nat} {c:Co} {x:CX} {i:Nat}
theorem aPd (w:World):Calls prog 44 #[.pointer none] w (aO w (.tuple #[.int .i64 0,.int .i64 0,.int .i64 1])):=by
 refine aF fun R y=>?_;have c:=aKM w;go_in;go_wp2;go_loopw [2,3] (fun z d wr=>z=.int .i64 0/\d=.int .i64 0/\wr=w) (fun _ _ _=>0)
 case atStart=>exact ⟨rfl,rfl,rfl⟩
 case round=>
  obtain ⟨rfl,rfl,rfl⟩:=hrel;go_wp2_with fail;refine c.mono ?_;rintro e _ ⟨rfl,rfl⟩;go_wp2;refine bodyPost_ret (results_tmp3 rfl _ _ _) rfl ?_;exact y.out _ _ ⟨rfl,rfl⟩
theorem aEZ (w:World) (hf:Fam w0 w (C5 b c x ++ l)) (hx:x.ok c) (h:c.Okc):Calls prog 44 #[.pointer (some ⟨b,0,none⟩)] w (fun e w'=>e=.returned (.tuple #[.int .i64 c.finish.1,.int .i64 c.finish.2.1,.int .i64 c.finish.2.2.1])/\∃ y:CX,y.ok c.finish.2.2.2/\Fam w0 w' (C5 b c.finish.2.2.2 y ++ l)):=by
 refine aF fun R hR=>?_;unfold Co.finish at hR;have HH:=aA h
 by_cases hp:c.ph=0
 ·rw [if_pos hp] at hR;have cs:=jZ w hf hx h;rw [Co.mX hp] at cs;clear hf hx h hp;go_in;go_wp2;go_loopw [2,3] (fun iv jv wr=>iv=.int .i64 0/\jv=.int .i64 0/\wr=w) (fun _ _ _=>0)
  case atStart=>exact ⟨rfl,rfl,rfl⟩
  case round=>
   obtain ⟨rfl,rfl,rfl⟩:=hrel;go_wp2_with fail;refine cs.mono ?_;rintro e w1 ⟨rfl,y,d,z⟩;have HE:Hid (∃ y:CX,y.ok c/\Fam w0 w1 (C5 b c y ++ l)):=⟨y,d,z⟩;clear cs d z;go_wp2;refine bodyPost_ret (results_tmp3 rfl _ _ _) rfl ?_;exact hR.out _ _ ⟨rfl,HE.out⟩
 rw [if_neg hp] at hR;have HF:Hid (∃ y:CX,y.ok c/\Fam w0 w (C5 b c y ++ l)):=⟨x,hx,hf⟩;have HP:=aA hp;have x4:=aA (Co.aMj h);clear hf hx h hp;go_in;go_wp2;go_loopw [2,3] (fun iv jv wr=>∃ k:Nat,iv=.int .i64 k/\jv=.int .i64 (Co.costs k c)/\(∃ y:CX,y.ok (Co.steps k c)/\Fam w0 wr (C5 b (Co.steps k c) y ++ l))/\Hid (∀ j,j<k->(Co.steps j c).ph≠0)) (fun iv _ _=>40000 - (intOf iv).toNat)
 case atStart=>exact ⟨0,rfl,rfl,HF.out,fun j hj=>by omega⟩
 case round=>as_aux_lemma=>
  clear HF;obtain ⟨k,rfl,rfl,⟨y,d,z⟩,HB⟩:=hrel;have h5:=HH.out.steps k;have cs:=jZ wr z d h5;have x2:=Co.oD HH.out k HB.out;have x8:=Co.aBT HH.out k;have hk:k<=30192:=by have:=x4.out;omega
  by_cases he:(Co.steps k c).ph=0
  ·have h8:=Co.aEV HH.out HB.out he;have h9:k≠0:=fun e=>by rw [e] at he;exact HP.out he
   have x9:((k:Int) == 0)=false:=by simpa using h9
   rw [Co.mX he] at cs;rw [<-h8] at hR;clear z d h5 h8 h9 x2 he;generalize Co.costs k c=co at*;go_wp2_with fail;refine cs.mono ?_;rintro e w1 ⟨rfl,x1,h3,h0⟩;have HE:Hid (∃ y:CX,y.ok (Co.steps k c)/\Fam w0 w1 (C5 b (Co.steps k c) y ++ l)):=⟨x1,h3,h0⟩;clear cs h3 h0;go_wp2;refine bodyPost_ret (results_tmp3 rfl _ _ _) rfl ?_;exact hR.out _ _ ⟨rfl,HE.out⟩
  have h4:=h5.cost he;have h6:Hid (∀ j,j<k+1->(Co.steps j c).ph≠0):=fun j hj=>by
   by_cases e:j=k
   ·rw [e];exact he
   exact HB.out j (by omega)
  have x5:=Co.oD HH.out (k+1) h6.out;have x3:Hid (Co.costs (k+1) c=Co.costs k c+(Co.steps k c).step.1):=rfl;have h7:Calls prog 41 #[.pointer (some ⟨b,0,none⟩)] wr (fun e w'=>e=.returned (.tuple #[.int .i64 (Co.steps k c).step.1,.int .i64 0])/\∃ y:CX,y.ok (Co.steps (k+1) c)/\Fam w0 w' (C5 b (Co.steps (k+1) c) y ++ l)):=cs.mono fun e w' ⟨h1,h2⟩=>⟨by rw [h1,h4.2.2],h2⟩;have x6:=h4.1;have x7:=h4.2.1;clear cs z d h5 he h4 x2;generalize (Co.steps (k+1) c).mu=m1 at*;generalize c.mu=m2 at*;generalize (Co.steps k c).step.1=sc at*;generalize Co.costs k c=co at*;go_wp2_with fail;refine h7.mono ?_;rintro e w1 ⟨rfl,x1,h3,h0⟩;have HE:Hid (∃ y:CX,y.ok (Co.steps (k+1) c)/\Fam w0 w1 (C5 b (Co.steps (k+1) c) y ++ l)):=⟨x1,h3,h0⟩;clear h7 h3 h0;go_wp2;exact ⟨⟨k+1,by go_num,by rw [x3.out],HE.out,h6⟩,by simp [intOf];omega⟩
theorem lK (w:World) (hf:Fam w0 w (C5 b c x ++ l)) (hx:x.ok c) (h:c.Ok) (n:Int) (hn:0<=n/\n<=10000):Calls prog 116 #[.pointer (some ⟨b,0,none⟩),.int .i64 n] w (fun e w'=>e=.returned (.int .i64 (c.give n).1)/\∃ y:CX,y.ok (c.give n).2/\Fam w0 w' (C5 b (c.give n).2 y ++ l)):=by
 refine aF fun R hR=>?_;unfold Co.give at hR;obtain ⟨_,_,_,_,_,x5,x6,_,_,_,xf⟩:=dB.cells hf
 by_cases hp:c.ph=0
 ·rw [if_pos hp] at hR;rw [hp] at x5;have HE:Hid (∃ y:CX,y.ok c/\Fam w0 w (C5 b c y ++ l)):=⟨x,hx,hf⟩;clear hf hx h hp;go_in;go_wp2;exact hR.out _ _ ⟨rfl,HE.out⟩
 rw [if_neg hp] at hR;have HD:=aA (h.k.more hp hn.1);have z2:=h.k.cr1;have y9:=h.cr2;have z5:((c.ph:Int) == 0)=false:=by simpa using hp
 have z6:=xf 6;have F1:Hid (∃ y:CX,y.ok (c.more n)/\Fam w0 (w.setCell ⟨b,6,none⟩ (.int .i64 (c.cr+n))) (C5 b (c.more n) y ++ l)):=⟨x,⟨hx.ov,hx.mv,hx.mv2⟩,C5.aEl hf (c.cr+n)⟩;have x9:Hid ((c.more n).cr<=10060):=by show c.cr+n<=10060;omega
 have x3:=(Co.fO HD.out).2.2;have y2:(c.more n).gives<=10061:=by
  have h2:=x9.out;unfold Co.nu at x3;split at x3<;>omega
 have x8:=aA y2;clear hf hx h hp xf x3 y2;generalize c.cr=cr at*;generalize c.ph=ph at*;go_in;go_upto_region 5 with fail;generalize w.setCell ⟨b,6,none⟩ (.int .i64 (cr+n))=w1 at*;generalize c.more n=d at*;clear x5 x6 z6 z5 z2 y9 hn;go_loopw [5] (fun iv wr=>∃ k:Nat,iv=.int .i64 k/\(∃ y:CX,y.ok (Co.pays k d)/\Fam w0 wr (C5 b (Co.pays k d) y ++ l))/\Hid (∀ j,j<k->¬ (Co.pays j d).stops)) (fun iv _=>20000 - (intOf iv).toNat)
 case atStart=>exact ⟨0,rfl,F1.out,fun j hj=>by omega⟩
 case round=>as_aux_lemma=>
  clear F1;obtain ⟨k,rfl,⟨y,h5,h4⟩,HB⟩:=hrel;obtain ⟨z,x4,x2⟩:=Co.tJ HD.out k HB.out;have z3:=z.cr1;have z4:(Co.pays k d).cr<=10060:=by have:=x9.out;omega
  have a4:k<=10061:=by
   have h1:=x8.out;rcases Nat.lt_or_ge d.gives k with h2|h2
   ·exact absurd (Co.fO HD.out).1 (HB.out _ h2)
   omega
  obtain ⟨_,_,_,_,_,x5,x6,_,_,_,xf⟩:=dB.cells h4;have h8:Hid (∃ y:CX,y.ok (Co.pays k d)/\Fam w0 wr (C5 b (Co.pays k d) y ++ l)):=⟨y,h5,h4⟩
  by_cases he:(Co.pays k d).ph=0
  ·have hg:=Co.rV HD.out HB.out (.inl he);rw [<-hg] at hR;rw [he] at x5;clear h4 h5 z x4 x2 he hg xf z3 z4;go_wp2;exact hR.out _ _ ⟨rfl,h8.out⟩
  have cc:=aDO wr h4 h5 z;have h7:=z.cost he;have h6:=aA h5;have z8:=aA z;have a3:(((Co.pays k d).ph:Int) != 0)=true:=by simpa using he
  have a1:=h7.1;have a2:=h7.2.1
  by_cases y7:(Co.pays k d).cr<(Co.pays k d).step.1
  ·have hg:=Co.rV HD.out HB.out (.inr y7);rw [<-hg] at hR;clear h4 h5 z x4 x2 he hg xf h7;unfold aIq at cc;generalize (Co.pays k d).step.2.1=er at*;generalize (Co.pays k d).step.1=sc at*;generalize h9:(Co.pays k d).cr=cr at*;generalize z0:(Co.pays k d).ph=ph at*;go_wp2_with fail;refine cc.mono ?_;rintro e w2 ⟨rfl,h0⟩;obtain ⟨_,_,_,_,_,y5,y6,_⟩:=dB.cells h0;rw [h9] at y6;have HE:Hid (∃ y:CX,y.ok (Co.pays k d)/\Fam w0 w2 (C5 b (Co.pays k d) y ++ l)):=⟨y,h6.out,h0⟩;clear cc h0 x5 x6 h8;go_wp2;exact hR.out _ _ ⟨rfl,HE.out⟩
  have y3:¬ (Co.pays k d).stops:=fun e=>by rcases e with e|e;exact he e;exact y7 e
  have x7:Hid (∀ j,j<k+1->¬ (Co.pays j d).stops):=fun j hj=>by
   by_cases e:j=k
   ·rw [e];exact y3
   exact HB.out j (by omega)
  have a6:k<d.gives:=by
   rcases Nat.lt_or_ge k d.gives with h1|h1
   ·exact h1
   exact absurd (Co.fO HD.out).1 (x7.out _ (by
    rcases Nat.eq_or_lt_of_le h1 with h2|h2
    ·omega
    omega))
  have y0:Hid (Co.pays (k+1) d=({ Co.pays k d with cr:=(Co.pays k d).cr - (Co.pays k d).step.1 }:Co).step.2.2):=rfl;have z1:Hid (({ Co.pays k d with cr:=(Co.pays k d).cr - (Co.pays k d).step.1 }:Co).Okc):=z.zU he (by omega);have z9:Hid ((Co.pays k d).ph≠0):=he;have a5:=x8.out;clear h4 h5 z x4 x2 he xf h7 y3 h8;unfold aIq at cc;generalize (Co.pays k d).step.2.1=er at*;generalize y4:(Co.pays k d).step.1=sc at*;have a0:=aA y4;clear y4;generalize h9:(Co.pays k d).cr=cr at*;generalize z0:(Co.pays k d).ph=ph at*;go_wp2_with fail;refine cc.mono ?_;rintro e w2 ⟨rfl,h0⟩;obtain ⟨_,_,_,_,_,y5,y6,_,_,_,yf⟩:=dB.cells h0;rw [h9] at y6;have z7:=yf 6;have F3:Hid (Fam w0 (w2.setCell ⟨b,6,none⟩ (.int .i64 (cr - sc))) (C5 b { Co.pays k d with cr:=cr - sc } y ++ l)):=C5.aEl h0 (cr - sc);clear cc h0 x5 x6 yf;go_upto_region 9 with fail;generalize w2.setCell ⟨b,6,none⟩ (.int .i64 (cr - sc))=w3 at*;have cs:=jZ w3 F3.out ⟨h6.out.ov,h6.out.mv,h6.out.mv2⟩ z1.out;clear y5 y6 z7 F3;replace cs:Calls prog 41 #[.pointer (some ⟨b,0,none⟩)] w3 (fun e w'=>∃ a b',e=.returned (.tuple #[.int .i64 a,.int .i64 b'])/\∃ y:CX,y.ok (Co.pays (k+1) d)/\Fam w0 w' (C5 b (Co.pays (k+1) d) y ++ l)):=cs.mono fun e w' ⟨h1,x1,h2,h3⟩=>⟨_,_,h1,x1,by rw [y0.out];exact h2,by rw [y0.out];exact h3⟩;go_wp2_with fail;refine cs.mono ?_;rintro e w4 ⟨ra,rb,rfl,x1,y8,y1⟩;have HE:Hid (∃ y:CX,y.ok (Co.pays (k+1) d)/\Fam w0 w4 (C5 b (Co.pays (k+1) d) y ++ l)):=⟨x1,y8,y1⟩;clear cs y8 y1;go_wp2;exact ⟨⟨k+1,by go_num,HE.out,x7⟩,by simp [intOf];omega⟩
end
end Go.Proofs.YthflghdaejbdkaaGreat
