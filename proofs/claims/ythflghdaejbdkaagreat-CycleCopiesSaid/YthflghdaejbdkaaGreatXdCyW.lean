/- Lemmas of this claim. -/
import Derived.Test.YthflghdaejbdkaaGreatXdCyU
namespace Go.Proofs.YthflghdaejbdkaaGreat
open _root_.Go.Proofs.Tryz (prog)
open Go.RowKit Go.Maps
set_option maxHeartbeats 6400000
set_option maxRecDepth 100000
set_option linter.unusedVariables false
def aHj (w0:World) (l:List Asn) (b:Nat) (c:Co) (x:CX) (e:Ending) (w':World):Prop:=e=.returned (.tuple #[.int .i64 c.step.1,.int .i64 c.step.2.1])/\Fam w0 w' (C5 b c x ++ l)
section
variable {w0 w:World} {l:List Asn} {b:Nat} {c:Co} {x:CX} {i:Nat}
theorem aOg (W:World) (v:Value):(Instr.typeAssert (.iface 157 v) 153 157 true).run prog W=.ok (.tuple #[v,.bool true]) W:=by kernel_rfl
theorem aPW (W:World) (v:Value):(Instr.typeAssert (.iface 160 v) 153 157 true).run prog W=.ok (.tuple #[.agg #[],.bool false]) W:=by kernel_rfl
theorem aPX (W:World) (v:Value):(Instr.typeAssert (.iface 160 v) 153 160 true).run prog W=.ok (.tuple #[v,.bool true]) W:=by kernel_rfl
theorem aKj (W:World) (v:Value):(Instr.typeAssert (.iface 163 v) 153 157 true).run prog W=.ok (.tuple #[.agg #[],.bool false]) W:=by kernel_rfl
theorem aKk (W:World) (v:Value):(Instr.typeAssert (.iface 163 v) 153 160 true).run prog W=.ok (.tuple #[.agg #[.int .i64 0],.bool false]) W:=by kernel_rfl
theorem aKl (W:World) (v:Value):(Instr.typeAssert (.iface 163 v) 153 163 true).run prog W=.ok (.tuple #[v,.bool true]) W:=by kernel_rfl
theorem aPT (W:World) (v:Value):(Instr.typeAssert (.iface 218 v) 153 157 true).run prog W=.ok (.tuple #[.agg #[],.bool false]) W:=by kernel_rfl
theorem aPU (W:World) (v:Value):(Instr.typeAssert (.iface 218 v) 153 160 true).run prog W=.ok (.tuple #[.agg #[.int .i64 0],.bool false]) W:=by kernel_rfl
theorem aPV (W:World) (v:Value):(Instr.typeAssert (.iface 218 v) 153 163 true).run prog W=.ok (.tuple #[.agg #[.int .i64 0],.bool false]) W:=by kernel_rfl
theorem aPQ (W:World) (v:Value):(Instr.typeAssert (.iface 219 v) 153 157 true).run prog W=.ok (.tuple #[.agg #[],.bool false]) W:=by kernel_rfl
theorem aPR (W:World) (v:Value):(Instr.typeAssert (.iface 219 v) 153 160 true).run prog W=.ok (.tuple #[.agg #[.int .i64 0],.bool false]) W:=by kernel_rfl
theorem aPS (W:World) (v:Value):(Instr.typeAssert (.iface 219 v) 153 163 true).run prog W=.ok (.tuple #[.agg #[.int .i64 0],.bool false]) W:=by kernel_rfl
theorem aCb {m:Mk}:m.next=(m.step.1,m.step.2.1):=by unfold Mk.next Mk.step;cases m.list<;>rfl
theorem aLR (w:World) (hf:Fam w0 w (C5 b c x ++ l)) (hx:x.ok c) (h:c.Okc) (hp:c.ph=1) (hl:c.m.list=[]):Calls prog 42 #[.pointer (some ⟨b,0,none⟩)] w (aHj w0 l b c x):=by
 refine aF fun R hR=>?_;obtain ⟨_,_,x2,_,_,x5,_⟩:=bY.cells hf;have cn:=aJ w x2;have cx:=bJ w hf h hx (by omega);unfold Co.kE at cx;rw [if_pos hp,if_pos hl] at cx;rw [hp] at x5;have HF:=aA hf;have HX:=aA hx;have HH:=aA h;have a0:=fun (W:World) (v:Value)=>aKj W v;have a1:=fun (W:World) (v:Value)=>aKk W v;have a2:=fun (W:World) (v:Value)=>aKl W v;have HR:Hid (∀ w',Fam w0 w' (C5 b c x ++ l)->R (.returned (.tuple #[.int .i64 (1),.int .i64 0])) w'):=fun w' h2=>hR.out _ _ ⟨by rw [aHK hp hl];rfl,h2⟩;clear hf hx h hR hp hl;go_in;go_wp2_with fail;refine cn.mono ?_;rintro e _ ⟨rfl,rfl⟩;clear cn;go_wp2_with fail;refine cx.mono ?_;rintro e _ ⟨rfl,k,rfl⟩;have F1:=aA (HF.out.drewN k);generalize w.drewN k=w1 at*;have F2:=aA (C5.alloc F1.out (.cells #[.int .i64 2] 163));clear cx;go_wp2_with fail;exact HR.out _ F2.out
theorem aLQ (w:World) (hf:Fam w0 w (C5 b c x ++ l)) (hx:x.ok c) (h:c.Okc) (hp:c.ph=1) (hl:¬ c.m.list=[]):Calls prog 42 #[.pointer (some ⟨b,0,none⟩)] w (aHj w0 l b c x):=by
 refine aF fun R hR=>?_;obtain ⟨_,_,x2,_,_,x5,_⟩:=bY.cells hf;have cn:=aJ w x2;have cx:=bJ w hf h hx (by omega);unfold Co.kE at cx;rw [if_pos hp,if_neg hl] at cx;rw [hp] at x5;have HF:=aA hf;have HX:=aA hx;have HH:=aA h;have a0:=fun (W:World) (v:Value)=>aOg W v;have HW:=aA (aAD (h.mo (.inl hp)));have hlr:=eX h.hf.ok c.m.step.1;have HR:Hid (∀ w',Fam w0 w' (C5 b c x ++ l)->R (.returned (.tuple #[.int .i64 (1+c.m.M.len c.m.step.1),.int .i64 0])) w'):=fun w' h2=>hR.out _ _ ⟨by rw [aHJ hp hl];rfl,h2⟩;clear hf hx h hR hp hl;go_in;go_wp2_with fail;refine cn.mono ?_;rintro e _ ⟨rfl,rfl⟩;clear cn;go_wp2_with fail;refine cx.mono ?_;rintro e _ ⟨rfl,k,rfl⟩;have F1:=aA (HF.out.drewN k);generalize w.drewN k=w1 at*;have F2:=aA (C5.alloc F1.out (.cells #[] 157));obtain ⟨_,_,_,_,z4,_⟩:=bY.cells F2.out;have cm:=xG _ (C5.t2 (b:=b) (c:=c) (x:=x) (l:=l)) (hb:=x.hb) (p:=x.p) (m:=c.m) F2.out;rw [aCb] at cm;clear cx;go_upto_region 5 with fail;generalize w1.alloc (.cells #[] 157)=w2 at*;go_wp2_with fail;refine cm.mono ?_;rintro e _ ⟨rfl,rfl⟩;have cl:=jW w2 F2.out c.m.step.1 HW.out;clear cm F1;generalize c.m.M.len c.m.step.1=n at*;go_wp2_with fail;refine cl.mono ?_;rintro e _ ⟨rfl,k2,rfl⟩;have F3:=aA (F2.out.drewN k2);clear cl F2;go_wp2_with fail;exact HR.out _ F3.out
theorem aLP (w:World) (hf:Fam w0 w (C5 b c x ++ l)) (hx:x.ok c) (h:c.Okc) (hp:c.ph=2) (hl:c.t.ph≠0):Calls prog 42 #[.pointer (some ⟨b,0,none⟩)] w (aHj w0 l b c x):=by
 refine aF fun R hR=>?_;obtain ⟨_,_,x2,_,_,x5,_⟩:=bY.cells hf;have cn:=aJ w x2;have cx:=bJ w hf h hx (by omega);unfold Co.kE at cx;rw [if_neg (show ¬ c.ph=1 by omega),if_pos hp,if_pos hl] at cx;rw [hp] at x5;have HF:=aA hf;have HX:=aA hx;have HH:=aA h;have a0:=fun (W:World) (v:Value)=>aPT W v;have a1:=fun (W:World) (v:Value)=>aPU W v;have a2:=fun (W:World) (v:Value)=>aPV W v;have HR:Hid (∀ w',Fam w0 w' (C5 b c x ++ l)->R (.returned (.tuple #[.int .i64 c.step.1,.int .i64 c.step.2.1])) w'):=fun w' h2=>hR.out _ _ ⟨rfl,h2⟩;clear hf hx h hR hp hl;go_in;go_wp2_with fail;refine cn.mono ?_;rintro e _ ⟨rfl,rfl⟩;clear cn;go_wp2_with fail;refine cx.mono ?_;rintro e _ ⟨rfl,k,rfl⟩;have F1:=aA (HF.out.drewN k);generalize w.drewN k=w1 at*;have cc:=rG w1 F1.out HX.out HH.out;clear cx;go_wp2_with fail;refine cc.mono ?_;rintro e w2 ⟨b2,rfl,x2,hx2,hf2⟩;have cs:=jV w2 hf2 hx2 HH.out;clear cc hx2 hf2 F1;go_wp2_with fail;refine cs.mono ?_;rintro e w3 ⟨rfl,x3,_,hf3⟩;have F3:=aA (Fam.rest hf3);clear cs hf3;go_wp2_with fail;exact HR.out _ F3.out
theorem aLO (w:World) (hf:Fam w0 w (C5 b c x ++ l)) (hx:x.ok c) (h:c.Okc) (hp:c.ph=2) (ht:c.t.ph=0) (hl:c.m.list=[]):Calls prog 42 #[.pointer (some ⟨b,0,none⟩)] w (aHj w0 l b c x):=by
 refine aF fun R hR=>?_;obtain ⟨_,_,x2,_,_,x5,_⟩:=bY.cells hf;have cn:=aJ w x2;have cx:=bJ w hf h hx (by omega);unfold Co.kE at cx;rw [if_neg (show ¬ c.ph=1 by omega),if_pos hp,if_neg (fun e=>e ht),if_pos hl] at cx;rw [hp] at x5;have HF:=aA hf;have HX:=aA hx;have HH:=aA h;have a0:=fun (W:World) (v:Value)=>aKj W v;have a1:=fun (W:World) (v:Value)=>aKk W v;have a2:=fun (W:World) (v:Value)=>aKl W v;have HR:Hid (∀ w',Fam w0 w' (C5 b c x ++ l)->R (.returned (.tuple #[.int .i64 (1),.int .i64 0])) w'):=fun w' h2=>hR.out _ _ ⟨by rw [aHI hp ht hl];rfl,h2⟩;clear hf hx h hR hp hl ht;go_in;go_wp2_with fail;refine cn.mono ?_;rintro e _ ⟨rfl,rfl⟩;clear cn;go_wp2_with fail;refine cx.mono ?_;rintro e _ ⟨rfl,k,rfl⟩;have F1:=aA (HF.out.drewN k);generalize w.drewN k=w1 at*;have F2:=aA (C5.alloc F1.out (.cells #[.int .i64 3] 163));clear cx;go_wp2_with fail;exact HR.out _ F2.out
theorem aLN (w:World) (hf:Fam w0 w (C5 b c x ++ l)) (hx:x.ok c) (h:c.Okc) (hp:c.ph=2) (ht:c.t.ph=0) (hl:¬ c.m.list=[]):Calls prog 42 #[.pointer (some ⟨b,0,none⟩)] w (aHj w0 l b c x):=by
 refine aF fun R hR=>?_;obtain ⟨_,_,x2,_,_,x5,_⟩:=bY.cells hf;have cn:=aJ w x2;have cx:=bJ w hf h hx (by omega);unfold Co.kE at cx;rw [if_neg (show ¬ c.ph=1 by omega),if_pos hp,if_neg (fun e=>e ht),if_neg hl] at cx;rw [hp] at x5;have HF:=aA hf;have HX:=aA hx;have HH:=aA h;have a0:=fun (W:World) (v:Value)=>aOg W v;have HW:=aA (aAD (h.mo (.inr hp)));have hlr:=eX h.hf.ok c.m.step.1;have HR:Hid (∀ w',Fam w0 w' (C5 b c x ++ l)->R (.returned (.tuple #[.int .i64 (1+c.m.M.len c.m.step.1),.int .i64 0])) w'):=fun w' h2=>hR.out _ _ ⟨by rw [aHH hp ht hl];rfl,h2⟩;clear hf hx h hR hp hl ht;go_in;go_wp2_with fail;refine cn.mono ?_;rintro e _ ⟨rfl,rfl⟩;clear cn;go_wp2_with fail;refine cx.mono ?_;rintro e _ ⟨rfl,k,rfl⟩;have F1:=aA (HF.out.drewN k);generalize w.drewN k=w1 at*;have F2:=aA (C5.alloc F1.out (.cells #[] 157));obtain ⟨_,_,_,_,z4,_⟩:=bY.cells F2.out;have cm:=xG _ (C5.t2 (b:=b) (c:=c) (x:=x) (l:=l)) (hb:=x.hb) (p:=x.p) (m:=c.m) F2.out;rw [aCb] at cm;clear cx;go_upto_region 5 with fail;generalize w1.alloc (.cells #[] 157)=w2 at*;go_wp2_with fail;refine cm.mono ?_;rintro e _ ⟨rfl,rfl⟩;have cl:=jW w2 F2.out c.m.step.1 HW.out;clear cm F1;generalize c.m.M.len c.m.step.1=n at*;go_wp2_with fail;refine cl.mono ?_;rintro e _ ⟨rfl,k2,rfl⟩;have F3:=aA (F2.out.drewN k2);clear cl F2;go_wp2_with fail;exact HR.out _ F3.out
theorem aLM (w:World) (hf:Fam w0 w (C5 b c x ++ l)) (hx:x.ok c) (h:c.Okc) (hp:c.ph=3) (hl:c.sw=[]):Calls prog 42 #[.pointer (some ⟨b,0,none⟩)] w (aHj w0 l b c x):=by
 refine aF fun R hR=>?_;obtain ⟨_,_,x2,_,_,x5,_⟩:=bY.cells hf;have cn:=aJ w x2;have cx:=bJ w hf h hx (by omega);unfold Co.kE at cx;rw [if_neg (show ¬ c.ph=1 by omega),if_neg (show ¬ c.ph=2 by omega),if_pos hp,hl] at cx;rw [hp] at x5;have HF:=aA hf;have HX:=aA hx;have HH:=aA h;have a0:=fun (W:World) (v:Value)=>aKj W v;have a1:=fun (W:World) (v:Value)=>aKk W v;have a2:=fun (W:World) (v:Value)=>aKl W v;have HR:Hid (∀ w',Fam w0 w' (C5 b c x ++ l)->R (.returned (.tuple #[.int .i64 (1),.int .i64 0])) w'):=fun w' h2=>hR.out _ _ ⟨by rw [aHG hp hl],h2⟩;clear hf hx h hR hp hl;go_in;go_wp2_with fail;refine cn.mono ?_;rintro e _ ⟨rfl,rfl⟩;clear cn;go_wp2_with fail;refine cx.mono ?_;rintro e _ ⟨rfl,k,rfl⟩;have F1:=aA (HF.out.drewN k);generalize w.drewN k=w1 at*;have F2:=aA (C5.alloc F1.out (.cells #[.int .i64 4] 163));clear cx;go_wp2_with fail;exact HR.out _ F2.out
theorem aLL (w:World) (hf:Fam w0 w (C5 b c x ++ l)) (hx:x.ok c) (h:c.Okc) (hp:c.ph=3) {y:Int} {r:List Int} (hl:c.sw=y :: r):Calls prog 42 #[.pointer (some ⟨b,0,none⟩)] w (aHj w0 l b c x):=by
 refine aF fun R hR=>?_;obtain ⟨_,_,x2,_,_,x5,_⟩:=bY.cells hf;have cn:=aJ w x2;have cx:=bJ w hf h hx (by omega);unfold Co.kE at cx;rw [if_neg (show ¬ c.ph=1 by omega),if_neg (show ¬ c.ph=2 by omega),if_pos hp,hl] at cx;rw [hp] at x5;have HF:=aA hf;have HX:=aA hx;have HH:=aA h;have a0:=fun (W:World) (v:Value)=>aPW W v;have a1:=fun (W:World) (v:Value)=>aPX W v;have HW:Hid (wfI y):=aHs (h.hf.ok.inR (h.su y (by rw [hl];exact List.mem_cons_self)));have hbr:=jE h.hf.ok y;have HR:Hid (∀ w',Fam w0 w' (C5 b c x ++ l)->R (.returned (.tuple #[.int .i64 (1+((c.m.M.blocks y).1.length:Int)),.int .i64 0])) w'):=fun w' h2=>hR.out _ _ ⟨by rw [aHF hp hl,Co.free,hl],h2⟩;clear hf hx h hR hp hl;go_in;go_wp2_with fail;refine cn.mono ?_;rintro e _ ⟨rfl,rfl⟩;clear cn;go_wp2_with fail;refine cx.mono ?_;rintro e _ ⟨rfl,k,rfl⟩;have F1:=aA (HF.out.drewN k);generalize w.drewN k=w1 at*;have F2:Hid (Fam w0 (w1.alloc (.cells #[.int .i64 y] 160)) (C5 b c x ++ (l ++ [dZ w1.heap.size 160 [.int .i64 y]]))):=F1.out.addRow 160 [.int .i64 y];clear cx;go_upto_region 9 with fail;obtain ⟨g,hg⟩:∃ g,g=w1.heap.size:=⟨_,rfl⟩;rw [<-hg] at F2 ⊢;generalize w1.alloc (.cells #[.int .i64 y] 160)=w2 at*;clear hg F1;have HC:Hid (∀ wx,Only [] w2 wx->Calls prog 115 #[.pointer (some ⟨x.hb,0,none⟩),.int .i64 y] wx (aJX wx (c.m.M.blocks y))):=fun wx ho=>by
  obtain ⟨hk,L,X,hp⟩:=C5.ph (F2.out.aN ho);exact lD wx hp hk y HW.out
 generalize hbn:(c.m.M.blocks y).1.length=bn at*;have HBN:=aA hbn;clear hbn;have HQ0:Hid (Only [] w2 w2.drew):=(Only.refl [] w2).drew;go_region_held3 (fun w'=>w'.cell? ⟨b,2,none⟩=some (.pointer (some ⟨x.hb,0,none⟩))/\w'.cell? ⟨g,0,none⟩=some (.int .i64 y))
  (first|(exact ⟨(C5.row F2.out).cell 2 rfl,(C5.last F2.out).cell 0 rfl⟩)|(exact ⟨(C5.row F3.out).cell 2 rfl,(C5.last F3.out).cell 0 rfl⟩))
  (first|(go_at_call 115;refine (HC.out _ HQ0.out).mono ?_;rintro e w3 ⟨v,rfl,hi,ho⟩;obtain ⟨va,vc,rfl⟩:=hi.len;rw [HBN.out] at*;have F3:=aA (F2.out.drew.aN ho);clear hi ho))
 have F4:Hid (Fam w0 w3 (C5 b c x ++ l)):=by
  have f4:Fam w0 w3 ((C5 b c x ++ l) ++ [dZ g 160 [.int .i64 y]]):=F3.out;exact f4.pop
 clear HC F2 HQ0 F3;go_wp2_with fail;exact HR.out _ F4.out
theorem aLK (w:World) (hf:Fam w0 w (C5 b c x ++ l)) (hx:x.ok c) (h:c.Okc) (hp:c.ph=4) (hl:c.mv=8*c.pages):Calls prog 42 #[.pointer (some ⟨b,0,none⟩)] w (aHj w0 l b c x):=by
 refine aF fun R hR=>?_;obtain ⟨_,_,x2,_,_,x5,_⟩:=bY.cells hf;have cn:=aJ w x2;have cx:=bJ w hf h hx (by omega);unfold Co.kE at cx;rw [if_neg (show ¬ c.ph=1 by omega),if_neg (show ¬ c.ph=2 by omega),if_neg (show ¬ c.ph=3 by omega),if_pos hl] at cx;rw [hp] at x5;have HF:=aA hf;have HX:=aA hx;have HH:=aA h;have a0:=fun (W:World) (v:Value)=>aKj W v;have a1:=fun (W:World) (v:Value)=>aKk W v;have a2:=fun (W:World) (v:Value)=>aKl W v;have HR:Hid (∀ w',Fam w0 w' (C5 b c x ++ l)->R (.returned (.tuple #[.int .i64 (1),.int .i64 0])) w'):=fun w' h2=>hR.out _ _ ⟨by rw [aHE hp hl],h2⟩;clear hf hx h hR hp hl;go_in;go_wp2_with fail;refine cn.mono ?_;rintro e _ ⟨rfl,rfl⟩;clear cn;go_wp2_with fail;refine cx.mono ?_;rintro e _ ⟨rfl,k,rfl⟩;have F1:=aA (HF.out.drewN k);generalize w.drewN k=w1 at*;have F2:=aA (C5.alloc F1.out (.cells #[.int .i64 0] 163));clear cx;go_wp2_with fail;exact HR.out _ F2.out
theorem aLJ (w:World) (hf:Fam w0 w (C5 b c x ++ l)) (hx:x.ok c) (h:c.Okc) (hp:c.ph=4) (hl:¬ c.mv=8*c.pages):Calls prog 42 #[.pointer (some ⟨b,0,none⟩)] w (aHj w0 l b c x):=by
 refine aF fun R hR=>?_;obtain ⟨_,_,x2,_,_,x5,_⟩:=bY.cells hf;have cn:=aJ w x2;have cx:=bJ w hf h hx (by omega);unfold Co.kE at cx;rw [if_neg (show ¬ c.ph=1 by omega),if_neg (show ¬ c.ph=2 by omega),if_neg (show ¬ c.ph=3 by omega),if_neg hl] at cx;rw [hp] at x5;have HF:=aA hf;have HX:=aA hx;have HH:=aA h;have a0:=fun (W:World) (v:Value)=>aPQ W v;have a1:=fun (W:World) (v:Value)=>aPR W v;have a2:=fun (W:World) (v:Value)=>aPS W v;have HR:Hid (∀ w',Fam w0 w' (C5 b c x ++ l)->R (.returned (.tuple #[.int .i64 c.step.1,.int .i64 c.step.2.1])) w'):=fun w' h2=>hR.out _ _ ⟨rfl,h2⟩;clear hf hx h hR hp hl;go_in;go_wp2_with fail;refine cn.mono ?_;rintro e _ ⟨rfl,rfl⟩;clear cn;go_wp2_with fail;refine cx.mono ?_;rintro e _ ⟨rfl,k,rfl⟩;have F1:=aA (HF.out.drewN k);generalize w.drewN k=w1 at*;have cc:=rG w1 F1.out HX.out HH.out;clear cx;go_wp2_with fail;refine cc.mono ?_;rintro e w2 ⟨b2,rfl,x2,hx2,hf2⟩;have cs:=jV w2 hf2 hx2 HH.out;clear cc hx2 hf2 F1;go_wp2_with fail;refine cs.mono ?_;rintro e w3 ⟨rfl,x3,_,hf3⟩;have F3:=aA (Fam.rest hf3);clear cs hf3;go_wp2_with fail;exact HR.out _ F3.out
theorem aNy (w:World) (hf:Fam w0 w (C5 b c x ++ l)) (hx:x.ok c) (h:c.Okc) (hp:c.ph=0):Calls prog 42 #[.pointer (some ⟨b,0,none⟩)] w (aHj w0 l b c x):=by
 refine aF fun R hR=>?_;obtain ⟨_,_,x2,_,_,x5,_⟩:=bY.cells hf;have cn:=aJ w x2;rw [hp] at x5;have HH:=aA h;have cc:=rG w hf hx h;have HR:Hid (∀ w',Fam w0 w' (C5 b c x ++ l)->R (.returned (.tuple #[.int .i64 c.step.1,.int .i64 c.step.2.1])) w'):=fun w' h2=>hR.out _ _ ⟨rfl,h2⟩;clear hf hx h hR hp;go_in;go_wp2_with fail;refine cn.mono ?_;rintro e _ ⟨rfl,rfl⟩;clear cn;go_wp2_with fail;refine cc.mono ?_;rintro e w2 ⟨b2,rfl,x2,hx2,hf2⟩;have cs:=jV w2 hf2 hx2 HH.out;clear cc hx2 hf2;go_wp2_with fail;refine cs.mono ?_;rintro e w3 ⟨rfl,x3,_,hf3⟩;have F3:=aA (Fam.rest hf3);clear cs hf3;go_wp2_with fail;exact HR.out _ F3.out
theorem aCZ (w:World) (hf:Fam w0 w (C5 b c x ++ l)) (hx:x.ok c) (h:c.Okc):Calls prog 42 #[.pointer (some ⟨b,0,none⟩)] w (aHj w0 l b c x):=by
 rcases qG h with hp|hp|hp|hp|hp
 ·exact aNy w hf hx h hp
 ·by_cases hl:c.m.list=[]
  ·exact aLR w hf hx h hp hl
  exact aLQ w hf hx h hp hl
 ·by_cases ht:c.t.ph=0
  ·by_cases hl:c.m.list=[]
   ·exact aLO w hf hx h hp ht hl
   exact aLN w hf hx h hp ht hl
  exact aLP w hf hx h hp ht
 ·cases hl:c.sw with
  | nil=>exact aLM w hf hx h hp hl
  | cons y r=>exact aLL w hf hx h hp hl
 by_cases hl:c.mv=8*c.pages
 ·exact aLK w hf hx h hp hl
 exact aLJ w hf hx h hp hl
end
def gG (w0:World) (l:List Asn) (b:Nat) (r:Int×Int×Co) (e:Ending) (w':World):Prop:=e=.returned (.tuple #[.int .i64 r.1,.int .i64 r.2.1])/\∃ x':CX,x'.ok r.2.2/\Fam w0 w' (C5 b r.2.2 x' ++ l)
section
variable {w0 w:World} {l:List Asn} {b:Nat} {c:Co} {x:CX} {i:Nat}
theorem aNx (w:World):Calls prog 44 #[.pointer none] w (aK w (.tuple #[.int .i64 0,.int .i64 0,.int .i64 1])):=by
 refine aF fun R hR=>?_;have c:=aJv w;go_in;go_wp2_with fail;go_loopw [2,3] (fun iv jv wr=>iv=.int .i64 0/\jv=.int .i64 0/\wr=w) (fun _ _ _=>0)
 case atStart=>exact ⟨rfl,rfl,rfl⟩
 case round=>
  obtain ⟨rfl,rfl,rfl⟩:=hrel;go_wp2_with fail;refine c.mono ?_;rintro e _ ⟨rfl,rfl⟩;go_wp2_with fail;refine bodyPost_ret (results_tmp3 rfl _ _ _) rfl ?_;exact hR.out _ _ ⟨rfl,rfl⟩
theorem aEj (w:World) (hf:Fam w0 w (C5 b c x ++ l)) (hx:x.ok c) (h:c.Okc):Calls prog 44 #[.pointer (some ⟨b,0,none⟩)] w (fun e w'=>e=.returned (.tuple #[.int .i64 c.finish.1,.int .i64 c.finish.2.1,.int .i64 c.finish.2.2.1])/\∃ x':CX,x'.ok c.finish.2.2.2/\Fam w0 w' (C5 b c.finish.2.2.2 x' ++ l)):=by
 refine aF fun R hR=>?_;unfold Co.finish at hR;have HH:=aA h
 by_cases hp:c.ph=0
 ·rw [if_pos hp] at hR;have cs:=jV w hf hx h;rw [Co.lW hp] at cs;clear hf hx h hp;go_in;go_wp2_with fail;go_loopw [2,3] (fun iv jv wr=>iv=.int .i64 0/\jv=.int .i64 0/\wr=w) (fun _ _ _=>0)
  case atStart=>exact ⟨rfl,rfl,rfl⟩
  case round=>
   obtain ⟨rfl,rfl,rfl⟩:=hrel;go_wp2_with fail;refine cs.mono ?_;rintro e w1 ⟨rfl,x',hx',hf'⟩;have HE:Hid (∃ x':CX,x'.ok c/\Fam w0 w1 (C5 b c x' ++ l)):=⟨x',hx',hf'⟩;clear cs hx' hf';go_wp2_with fail;refine bodyPost_ret (results_tmp3 rfl _ _ _) rfl ?_;exact hR.out _ _ ⟨rfl,HE.out⟩
 rw [if_neg hp] at hR;have HF:Hid (∃ x':CX,x'.ok c/\Fam w0 w (C5 b c x' ++ l)):=⟨x,hx,hf⟩;have HP:=aA hp;have HMU:=aA (Co.aKN h);clear hf hx h hp;go_in;go_wp2_with fail;go_loopw [2,3] (fun iv jv wr=>∃ k:Nat,iv=.int .i64 k/\jv=.int .i64 (Co.costs k c)/\(∃ x':CX,x'.ok (Co.steps k c)/\Fam w0 wr (C5 b (Co.steps k c) x' ++ l))/\Hid (∀ j,j<k->(Co.steps j c).ph≠0)) (fun iv _ _=>40000 - (intOf iv).toNat)
 case atStart=>exact ⟨0,rfl,rfl,HF.out,fun j hj=>by omega⟩
 case round=>as_aux_lemma=>
  clear HF;obtain ⟨k,rfl,rfl,⟨x',hx',hf'⟩,HB⟩:=hrel;have hok:=HH.out.steps k;have cs:=jV wr hf' hx' hok;have hmu:=Co.nK HH.out k HB.out;have hcl:=Co.aBh HH.out k;have hk:k<=30192:=by have:=HMU.out;omega
  by_cases he:(Co.steps k c).ph=0
  ·have hfi:=Co.aEe HH.out HB.out he;have hk0:k≠0:=fun e=>by rw [e] at he;exact HP.out he
   have hkb:((k:Int) == 0)=false:=by simpa using hk0
   rw [Co.lW he] at cs;rw [<-hfi] at hR;clear hf' hx' hok hfi hk0 hmu he;generalize Co.costs k c=co at*;go_wp2_with fail;refine cs.mono ?_;rintro e w1 ⟨rfl,x1,hx1,hf1⟩;have HE:Hid (∃ x':CX,x'.ok (Co.steps k c)/\Fam w0 w1 (C5 b (Co.steps k c) x' ++ l)):=⟨x1,hx1,hf1⟩;clear cs hx1 hf1;go_wp2_with fail;refine bodyPost_ret (results_tmp3 rfl _ _ _) rfl ?_;exact hR.out _ _ ⟨rfl,HE.out⟩
  have hco:=hok.cost he;have HBN:Hid (∀ j,j<k+1->(Co.steps j c).ph≠0):=fun j hj=>by
   by_cases e:j=k
   ·rw [e];exact he
   exact HB.out j (by omega)
  have hmu2:=Co.nK HH.out (k+1) HBN.out;have HCO:Hid (Co.costs (k+1) c=Co.costs k c+(Co.steps k c).step.1):=rfl;have cs2:Calls prog 41 #[.pointer (some ⟨b,0,none⟩)] wr (fun e w'=>e=.returned (.tuple #[.int .i64 (Co.steps k c).step.1,.int .i64 0])/\∃ x':CX,x'.ok (Co.steps (k+1) c)/\Fam w0 w' (C5 b (Co.steps (k+1) c) x' ++ l)):=cs.mono fun e w' ⟨h1,h2⟩=>⟨by rw [h1,hco.2.2],h2⟩;have hc1:=hco.1;have hc2:=hco.2.1;clear cs hf' hx' hok he hco hmu;generalize (Co.steps (k+1) c).mu=m1 at*;generalize c.mu=m2 at*;generalize (Co.steps k c).step.1=sc at*;generalize Co.costs k c=co at*;go_wp2_with fail;refine cs2.mono ?_;rintro e w1 ⟨rfl,x1,hx1,hf1⟩;have HE:Hid (∃ x':CX,x'.ok (Co.steps (k+1) c)/\Fam w0 w1 (C5 b (Co.steps (k+1) c) x' ++ l)):=⟨x1,hx1,hf1⟩;clear cs2 hx1 hf1;go_wp2_with fail;exact ⟨⟨k+1,by go_num,by rw [HCO.out],HE.out,HBN⟩,by simp [intOf];omega⟩
theorem lC (w:World) (hf:Fam w0 w (C5 b c x ++ l)) (hx:x.ok c) (h:c.Ok) (n:Int) (hn:0<=n/\n<=10000):Calls prog 116 #[.pointer (some ⟨b,0,none⟩),.int .i64 n] w (fun e w'=>e=.returned (.int .i64 (c.give n).1)/\∃ x':CX,x'.ok (c.give n).2/\Fam w0 w' (C5 b (c.give n).2 x' ++ l)):=by
 refine aF fun R hR=>?_;unfold Co.give at hR;obtain ⟨_,_,_,_,_,x5,x6,_,_,_,xf⟩:=bY.cells hf
 by_cases hp:c.ph=0
 ·rw [if_pos hp] at hR;rw [hp] at x5;have HE:Hid (∃ x':CX,x'.ok c/\Fam w0 w (C5 b c x' ++ l)):=⟨x,hx,hf⟩;clear hf hx h hp;go_in;go_wp2_with fail;exact hR.out _ _ ⟨rfl,HE.out⟩
 rw [if_neg hp] at hR;have HD:=aA (h.k.more hp hn.1);have aQB:=h.k.cr1;have hcr2:=h.cr2;have hpb:((c.ph:Int) == 0)=false:=by simpa using hp
 have x6f:=xf 6;have F1:Hid (∃ x':CX,x'.ok (c.more n)/\Fam w0 (w.setCell ⟨b,6,none⟩ (.int .i64 (c.cr+n))) (C5 b (c.more n) x' ++ l)):=⟨x,⟨hx.ov,hx.mv,hx.mv2⟩,C5.aDu hf (c.cr+n)⟩;have HMX:Hid ((c.more n).cr<=10060):=by show c.cr+n<=10060;omega
 have hgu:=(Co.gK HD.out).2.2;have hgb:(c.more n).gives<=10061:=by
  have h2:=HMX.out;unfold Co.nu at hgu;split at hgu<;>omega
 have HGB:=aA hgb;clear hf hx h hp xf hgu hgb;generalize c.cr=cr at*;generalize c.ph=ph at*;go_in;go_upto_region 5 with fail;generalize w.setCell ⟨b,6,none⟩ (.int .i64 (cr+n))=w1 at*;generalize c.more n=d at*;clear x5 x6 x6f hpb aQB hcr2 hn;go_loopw [5] (fun iv wr=>∃ k:Nat,iv=.int .i64 k/\(∃ x':CX,x'.ok (Co.pays k d)/\Fam w0 wr (C5 b (Co.pays k d) x' ++ l))/\Hid (∀ j,j<k->¬ (Co.pays j d).stops)) (fun iv _=>20000 - (intOf iv).toNat)
 case atStart=>exact ⟨0,rfl,F1.out,fun j hj=>by omega⟩
 case round=>as_aux_lemma=>
  clear F1;obtain ⟨k,rfl,⟨x',hx',hf'⟩,HB⟩:=hrel;obtain ⟨hok,hnu,hcm⟩:=Co.wP HD.out k HB.out;have hcr:=hok.cr1;have hcx:(Co.pays k d).cr<=10060:=by have:=HMX.out;omega
  have hkb:k<=10061:=by
   have h1:=HGB.out;rcases Nat.lt_or_ge d.gives k with h2|h2
   ·exact absurd (Co.gK HD.out).1 (HB.out _ h2)
   omega
  obtain ⟨_,_,_,_,_,x5,x6,_,_,_,xf⟩:=bY.cells hf';have HEX:Hid (∃ x':CX,x'.ok (Co.pays k d)/\Fam w0 wr (C5 b (Co.pays k d) x' ++ l)):=⟨x',hx',hf'⟩
  by_cases he:(Co.pays k d).ph=0
  ·have hg:=Co.vO HD.out HB.out (.inl he);rw [<-hg] at hR;rw [he] at x5;clear hf' hx' hok hnu hcm he hg xf hcr hcx;go_wp2_with fail;exact hR.out _ _ ⟨rfl,HEX.out⟩
  have cc:=aCZ wr hf' hx' hok;have hco:=hok.cost he;have HX':=aA hx';have HOK:=aA hok;have heb:(((Co.pays k d).ph:Int) != 0)=true:=by simpa using he
  have hc1:=hco.1;have hc2:=hco.2.1
  by_cases hst:(Co.pays k d).cr<(Co.pays k d).step.1
  ·have hg:=Co.vO HD.out HB.out (.inr hst);rw [<-hg] at hR;clear hf' hx' hok hnu hcm he hg xf hco;unfold aHj at cc;generalize (Co.pays k d).step.2.1=er at*;generalize (Co.pays k d).step.1=sc at*;generalize aNl:(Co.pays k d).cr=cr at*;generalize aQm:(Co.pays k d).ph=ph at*;go_wp2_with fail;refine cc.mono ?_;rintro e w2 ⟨rfl,hf2⟩;obtain ⟨_,_,_,_,_,y5,y6,_⟩:=bY.cells hf2;rw [aNl] at y6;have HE:Hid (∃ x':CX,x'.ok (Co.pays k d)/\Fam w0 w2 (C5 b (Co.pays k d) x' ++ l)):=⟨x',HX'.out,hf2⟩;clear cc hf2 x5 x6 HEX;go_wp2_with fail;exact hR.out _ _ ⟨rfl,HE.out⟩
  have hns:¬ (Co.pays k d).stops:=fun e=>by rcases e with e|e;exact he e;exact hst e
  have HBN:Hid (∀ j,j<k+1->¬ (Co.pays j d).stops):=fun j hj=>by
   by_cases e:j=k
   ·rw [e];exact hns
   exact HB.out j (by omega)
  have hkn:k<d.gives:=by
   rcases Nat.lt_or_ge k d.gives with h1|h1
   ·exact h1
   exact absurd (Co.gK HD.out).1 (HBN.out _ (by
    rcases Nat.eq_or_lt_of_le h1 with h2|h2
    ·omega
    omega))
  have aPi:Hid (Co.pays (k+1) d=({ Co.pays k d with cr:=(Co.pays k d).cr - (Co.pays k d).step.1 }:Co).step.2.2):=rfl;have aRe:Hid (({ Co.pays k d with cr:=(Co.pays k d).cr - (Co.pays k d).step.1 }:Co).Okc):=hok.aFf he (by omega);have HPH:Hid ((Co.pays k d).ph≠0):=he;have hkg:=HGB.out;clear hf' hx' hok hnu hcm he xf hco hns HEX;unfold aHj at cc;generalize (Co.pays k d).step.2.1=er at*;generalize hsc:(Co.pays k d).step.1=sc at*;have HSC:=aA hsc;clear hsc;generalize aNl:(Co.pays k d).cr=cr at*;generalize aQm:(Co.pays k d).ph=ph at*;go_wp2_with fail;refine cc.mono ?_;rintro e w2 ⟨rfl,hf2⟩;obtain ⟨_,_,_,_,_,y5,y6,_,_,_,yf⟩:=bY.cells hf2;rw [aNl] at y6;have y6f:=yf 6;have F3:Hid (Fam w0 (w2.setCell ⟨b,6,none⟩ (.int .i64 (cr - sc))) (C5 b { Co.pays k d with cr:=cr - sc } x' ++ l)):=C5.aDu hf2 (cr - sc);clear cc hf2 x5 x6 yf;go_upto_region 9 with fail;generalize w2.setCell ⟨b,6,none⟩ (.int .i64 (cr - sc))=w3 at*;have cs:=jV w3 F3.out ⟨HX'.out.ov,HX'.out.mv,HX'.out.mv2⟩ aRe.out;clear y5 y6 y6f F3;replace cs:Calls prog 41 #[.pointer (some ⟨b,0,none⟩)] w3 (fun e w'=>∃ a b',e=.returned (.tuple #[.int .i64 a,.int .i64 b'])/\∃ x':CX,x'.ok (Co.pays (k+1) d)/\Fam w0 w' (C5 b (Co.pays (k+1) d) x' ++ l)):=cs.mono fun e w' ⟨h1,x1,h2,h3⟩=>⟨_,_,h1,x1,by rw [aPi.out];exact h2,by rw [aPi.out];exact h3⟩;go_wp2_with fail;refine cs.mono ?_;rintro e w4 ⟨ra,rb,rfl,x1,hx1,hf1⟩;have HE:Hid (∃ x':CX,x'.ok (Co.pays (k+1) d)/\Fam w0 w4 (C5 b (Co.pays (k+1) d) x' ++ l)):=⟨x1,hx1,hf1⟩;clear cs hx1 hf1;go_wp2_with fail;exact ⟨⟨k+1,by go_num,HE.out,HBN⟩,by simp [intOf];omega⟩
end
end Go.Proofs.YthflghdaejbdkaaGreat
