/- Lemmas of this claim. -/
import Derived.Test.YthflghdaejbdkaaGreatXcCyR
import Derived.Test.YthflghdaejbdkaaGreatXcCyZD
namespace Go.Proofs.YthflghdaejbdkaaGreat
open _root_.Go.Proofs.Tryz (prog)
open Go.RowKit Go.Maps
set_option maxHeartbeats 6400000
set_option maxRecDepth 100000
set_option linter.unusedVariables false
def aQX (w0:World) (l:List Asn) (b:Nat) (r:Int×Co) (e:Ending) (w':World):Prop:=e=.returned (.int .i64 r.1)/\∃ y:GX5,y.ok r.2/\Fam w0 w' (G5 b r.2 y ++ l)
section
variable {w0 w w':World} {l:List Asn} {b:Nat} {c:Co} {x:GX5} {i:Nat} {m:Mk} {t:Tb}
theorem aLp {M:Hp} {y s:Int} (h:(M.ob y).isSome=false):M.get y s=(0,3):=by
 unfold Hp.get
 cases e:M.ob y with
 | none=>rfl
 | some o=>rw [e] at h;cases h
theorem aLQ {M:Hp} {y s v:Int} (h:(M.ob y).isSome=false):M.set y s v=(3,M):=by
 unfold Hp.set
 cases e:M.ob y with
 | none=>rfl
 | some o=>rw [e] at h;cases h
theorem aHq {M:Hp} {y s:Int} (h:(M.ob y).isSome=false):M.isRef y s=(false,3):=by
 unfold Hp.isRef
 cases e:M.ob y with
 | none=>rfl
 | some o=>rw [e] at h;cases h
theorem aHe {m:Mk} {y s v:Int} (h:(m.M.set y s v).1≠0):m.store y s v=((m.M.set y s v).1,m):=by
 unfold Mk.store;simp only;rw [if_neg (fun e=>h e.1)];rcases xJ m.M y s v with ⟨_,d⟩|⟨o,j,_,_,_,_,z,_⟩
 ·rw [d];rfl
 exact absurd z h
theorem aCp {y s v e:Int} (d:c.hid y=false) (hr:(c.m.M.isRef y s).1=false) (h:c.m.M.set y s v=(e,c.m.M)) (z:e≠0):c.store y s v=(e,c):=by
 unfold Co.store;rw [if_neg (fun x=>by rcases x with x|x;rw [d] at x;cases x;rw [hr] at x;cases x.1)]
 split
 ·rw [aHe (by rw [h];exact z),h]
 rw [h];rfl
theorem aBn {M:Hp} {y s v:Int} (h:(M.isRef y s).2≠0):(M.isRef y s).1=false/\M.set y s v=((M.isRef y s).2,M):=by
 unfold Hp.isRef at h ⊢;unfold Hp.set
 cases e:M.ob y with
 | none=>exact ⟨rfl,rfl⟩
 | some o=>
  rw [e] at h;simp only at h ⊢
  by_cases z:s<0\/(o.slots.length:Int)<=s
  ·rw [if_pos z,if_pos z];exact ⟨rfl,rfl⟩
  rw [if_neg z] at h;exact absurd rfl h
theorem aKr (w:World) (hf:Fam w0 w (G5 b c x ++ l)) (hx:x.ok c) (h:c.Okc) (y s:Int):Calls prog 99 #[.pointer (some ⟨b,0,none⟩),.int .i64 y,.int .i64 s] w (fun e w'=>e=.returned (.tuple #[.int .i64 (c.get y s).1,.int .i64 (c.get y s).2])/\Only [] w w'):=by
 refine aF fun R hR=>?_;have ch:=rW w hf hx h y;have HF:=aA hf;unfold Co.get at hR
 cases z:c.gone y with
 | true=>
  have hv:(if c.hid y=true then ((0:Int),(3:Int)) else c.m.M.get y s)=(0,3):=by
   unfold Co.gone at z
   cases e:c.hid y with
   | true=>rfl
   | false=>
    rw [e,Bool.or_false] at z;exact aLp (by simpa using z)
  rw [hv] at hR;rw [z] at ch;clear hf hx h z hv;go_in;go_wp2_with fail;refine ch.mono ?_;rintro e w1 ⟨rfl,d⟩;have HO:=aA d;clear ch d;go_wp2;exact hR.out _ _ ⟨rfl,HO.out⟩
 | false=>
  have hv:(if c.hid y=true then ((0:Int),(3:Int)) else c.m.M.get y s)=c.m.M.get y s:=by
   unfold Co.gone at z
   cases e:c.hid y with
   | true=>rw [e,Bool.or_true] at z;cases z
   | false=>rfl
  rw [hv] at hR;rw [z] at ch;have HC:Hid (∀ wx,Only [] w wx->wx.cell? ⟨b,0,none⟩=some (.pointer (some ⟨x.q,0,none⟩))/\Calls prog 182 #[.pointer (some ⟨x.q,0,none⟩),.int .i64 y,.int .i64 s] wx (aO wx (.tuple #[.int .i64 (c.m.M.get y s).1,.int .i64 (c.m.M.get y s).2]))):=fun wx d=>by
   have f2:=HF.out.aN d;obtain ⟨hk,L,X,hp⟩:=G5.gh f2;exact ⟨(bF.cells f2).1,aFU wx hp hk y s⟩
  clear hf hx h z hv HF;generalize (c.m.M.get y s).1=g1 at*;generalize (c.m.M.get y s).2=g2 at*;go_in;go_wp2_with fail;refine ch.mono ?_;rintro e w1 ⟨rfl,d⟩;obtain ⟨z0,cg⟩:=HC.out w1 d;have HO:=aA d;clear ch d HC;go_wp2_with fail;refine cg.mono ?_;rintro e _ ⟨rfl,rfl⟩;clear cg;go_wp2;exact hR.out _ _ ⟨rfl,HO.out⟩
theorem G5.stores (hf:Fam w0 w (G5 b c x ++ l)) (hx:x.ok c) (h:c.Okc) (y s v:Int):w.cell? ⟨b,3,none⟩=some (.int .i64 (c.ph:Int))/\(c.bar=true->w.cell? ⟨b,2,none⟩=some (.pointer (some ⟨x.r,0,none⟩))/\Calls prog 148 #[.pointer (some ⟨x.r,0,none⟩),.int .i64 y,.int .i64 s,.int .i64 v] w (fun e w'=>e=.returned (.int .i64 (c.m.store y s v).1)/\Fam w0 w' (G5 b (c.pI (c.m.store y s v).2) x ++ l)))/\w.cell? ⟨b,0,none⟩=some (.pointer (some ⟨x.q,0,none⟩))/\Calls prog 144 #[.pointer (some ⟨x.q,0,none⟩),.int .i64 y,.int .i64 s,.int .i64 v] w (fun e w'=>e=.returned (.int .i64 (c.m.M.set y s v).1)/\Fam w0 w' (G5 b (c.pI (c.m.put (c.m.M.set y s v).2)) x ++ l)):=by
 have d:=bF.cells hf;refine ⟨d.2.2.2.1,fun hb=>?_,d.1,aDw w hf y s v⟩;have z:x.on=true:=hx.on.trans hb;refine ⟨G5.m2 z hf,?_⟩;have:=aEP w (G5.t2 (b:=b) (c:=c) (x:=x) (l:=l)) (G5.toR z hf) (h.mo (bQ.1 hb)) y s v;rw [G5.rl z] at this;exact this
theorem jF (h:c.Okc):(c.ph=1/\c.bar=true)\/(c.ph=2/\c.bar=true)\/(((c.ph:Int) == 1)=false/\((c.ph:Int) == 2)=false/\c.bar=false):=by
 by_cases y:c.ph=1
 ·exact .inl ⟨y,bQ.2 (.inl y)⟩
 by_cases z:c.ph=2
 ·exact .inr (.inl ⟨z,bQ.2 (.inr z)⟩)
 exact .inr (.inr ⟨by rw [beq_eq_false_iff_ne];omega,by rw [beq_eq_false_iff_ne];omega,aAZ y z⟩)
theorem aHA (w:World) (hf:Fam w0 w (G5 b c x ++ l)) (hx:x.ok c) (h:c.Okc) (y s v:Int):Calls prog 94 #[.pointer (some ⟨b,0,none⟩),.int .i64 y,.int .i64 s,.int .i64 v] w (aQX w0 l b (c.store y s v)):=by
 refine aF fun R hR=>?_;have ch:=rW w hf hx h y;have F0:=aA hf;have HX:=aA hx;have HH:=aA h
 cases d:c.gone y with
 | true=>
  have hv:c.store y s v=(3,c):=by
   cases e:c.hid y with
   | true=>unfold Co.store;rw [if_pos (.inl e)]
   | false=>
    unfold Co.gone at d;rw [e,Bool.or_false] at d;have hn:(c.m.M.ob y).isSome=false:=by simpa using d
    exact aCp e (by rw [aHq hn]) (aLQ hn) (by decide)
  rw [hv] at hR;rw [d] at ch;clear hf hx h d hv;go_in;go_wp2_with fail;refine ch.mono ?_;rintro e w1 ⟨rfl,ho⟩;have F1:=aA (F0.out.aN ho);clear ch ho F0;go_wp2;exact hR.out _ _ ⟨rfl,x,HX.out,F1.out⟩
 | false=>
  have h4:c.hid y=false/\(c.m.M.ob y).isSome=true:=by
   unfold Co.gone at d
   cases e:c.hid y with
   | true=>rw [e,Bool.or_true] at d;cases d
   | false=>rw [e,Bool.or_false] at d;exact ⟨rfl,by simpa using d⟩
  rw [d] at ch;have HI:Hid (∀ wx,Fam w0 wx (G5 b c x ++ l)->wx.cell? ⟨b,0,none⟩=some (.pointer (some ⟨x.q,0,none⟩))/\Calls prog 176 #[.pointer (some ⟨x.q,0,none⟩),.int .i64 y,.int .i64 s] wx (aO wx (.tuple #[.bool (c.m.M.isRef y s).1,.int .i64 (c.m.M.isRef y s).2]))):=fun wx hwx=>by
   obtain ⟨hk,L,X,hp⟩:=G5.gh hwx;exact ⟨(bF.cells hwx).1,uP wx hp hk y s⟩
  by_cases he:(c.m.M.isRef y s).2=0
  ·rw [he] at HI
   cases h1:(c.m.M.isRef y s).1 with
   | true=>
    rw [h1] at HI;have HL:Hid (∀ wx,Fam w0 wx (G5 b c x ++ l)->Calls prog 58 #[.pointer (some ⟨x.q,0,none⟩),.int .i64 v] wx (fun e w'=>e=.returned (.bool (c.m.M.ob v).isSome)/\Only [] wx w')):=fun wx hwx=>by
     obtain ⟨hk,L,X,hp⟩:=G5.gh hwx;exact jP wx hp hk v
    have HG:Hid (∀ wx,Fam w0 wx (G5 b c x ++ l)->Calls prog 175 #[.pointer (some ⟨b,0,none⟩),.int .i64 v] wx (fun e w'=>e=.returned (.bool (c.gone v))/\Only [] wx w')):=fun wx hwx=>rW wx hwx HX.out HH.out v
    cases h5:(c.m.M.ob v).isSome with
    | true=>
     rw [h5] at HL
     cases h3:c.gone v with
     | true=>
      have h0:c.store y s v=(3,c):=by
       unfold Co.store;rw [if_pos (.inr ⟨h1,by unfold Co.gone at h3;rw [h5] at h3;simpa using h3⟩)]
      rw [h0] at hR;rw [h3] at HG;clear hf hx h d h0 h4 he h1 h5 h3;go_in;go_wp2_with fail;refine ch.mono ?_;rintro e w1 ⟨rfl,ho⟩;have F1:=aA (F0.out.aN ho);obtain ⟨z0,ci⟩:=HI.out w1 F1.out;have cl:=HL.out w1 F1.out;clear ch ho F0;go_wp2_with fail;refine ci.mono ?_;rintro e _ ⟨rfl,rfl⟩;clear ci;go_wp2_with fail;refine cl.mono ?_;rintro e w2 ⟨rfl,h6⟩;have F2:=aA (F1.out.aN h6);have cg:=HG.out w2 F2.out;clear cl h6 F1 z0;go_wp2_with fail;refine cg.mono ?_;rintro e w3 ⟨rfl,h9⟩;have F3:=aA (F2.out.aN h9);clear cg h9 F2;go_wp2;exact hR.out _ _ ⟨rfl,x,HX.out,F3.out⟩
     | false=>
      have h8:c.hid v=false:=by
       unfold Co.gone at h3
       cases e:c.hid v with
       | true=>rw [e,Bool.or_true] at h3;cases h3
       | false=>rfl
      have h0:c.store y s v=if c.bar=true then ((c.m.store y s v).1,({ c with m:=(c.m.store y s v).2 }:Co)) else ((c.m.M.set y s v).1,({ c with m:=c.m.put (c.m.M.set y s v).2 }:Co)):=by
       unfold Co.store;rw [if_neg (fun e=>by rcases e with e|e;rw [h4.1] at e;cases e;rw [h8] at e;cases e.2)]
      rw [h0] at hR;rw [h3] at HG;have x1:=jF h;clear hf hx h d h0 h4 he h1 h5 h3 h8;go_in;go_wp2_with fail;refine ch.mono ?_;rintro e w1 ⟨rfl,ho⟩;have F1:=aA (F0.out.aN ho);obtain ⟨z0,ci⟩:=HI.out w1 F1.out;have cl:=HL.out w1 F1.out;clear ch ho F0;go_wp2_with fail;refine ci.mono ?_;rintro e _ ⟨rfl,rfl⟩;clear ci;go_wp2_with fail;refine cl.mono ?_;rintro e w2 ⟨rfl,h6⟩;have F2:=aA (F1.out.aN h6);have cg:=HG.out w2 F2.out;clear cl h6 F1 z0;go_wp2_with fail;refine cg.mono ?_;rintro e w3 ⟨rfl,h9⟩;have F3:=aA (F2.out.aN h9);obtain ⟨z3,zb,z0,cs⟩:=G5.stores F3.out HX.out HH.out y s v;clear cg h9 F2 HI HL HG HH;rcases x1 with ⟨hp,hb⟩|⟨hp,hb⟩|⟨x3,x4,hb⟩
      ·obtain ⟨z2,cm⟩:=zb hb;rw [hp] at z3;rw [hb] at hR;clear zb cs z0 hp hb;go_wp2_with fail;refine cm.mono ?_;rintro e w4 ⟨rfl,z⟩;have F4:=aA z;clear cm z;go_wp2;exact hR.out _ _ ⟨rfl,x,⟨HX.out.on,HX.out.mv,HX.out.m0,HX.out.mv2⟩,F4.out⟩
      ·obtain ⟨z2,cm⟩:=zb hb;rw [hp] at z3;rw [hb] at hR;clear zb cs z0 hp hb;go_wp2_with fail;refine cm.mono ?_;rintro e w4 ⟨rfl,z⟩;have F4:=aA z;clear cm z;go_wp2;exact hR.out _ _ ⟨rfl,x,⟨HX.out.on,HX.out.mv,HX.out.m0,HX.out.mv2⟩,F4.out⟩
      have h7:Hid (∀ w',Fam w0 w' (G5 b (c.pI (c.m.put (c.m.M.set y s v).2)) x ++ l)->R (.returned (.int .i64 (c.m.M.set y s v).1)) w'):=fun w' h2=>hR.out _ _ (by
       rw [if_neg (by rw [hb];decide)];exact ⟨rfl,x,⟨HX.out.on,HX.out.mv,HX.out.m0,HX.out.mv2⟩,h2⟩)
      clear hR HX zb hb;generalize (c.m.M.set y s v).1=s1 at*;generalize c.pI (c.m.put (c.m.M.set y s v).2)=c2 at*;generalize c.ph=ph at*;go_wp2_with fail;refine cs.mono ?_;rintro e w4 ⟨rfl,z⟩;have F4:=aA z;clear cs z;go_wp2_with fail;exact h7.out _ F4.out
    | false=>
     have h8:c.hid v=false:=by
      unfold Co.hid;split
      ·unfold Mk.isW;rw [h5];rfl
      refine decide_eq_false fun e=>?_;have:=h.su v e;rw [h5] at this;cases this
     have h0:c.store y s v=if c.bar=true then ((c.m.store y s v).1,({ c with m:=(c.m.store y s v).2 }:Co)) else ((c.m.M.set y s v).1,({ c with m:=c.m.put (c.m.M.set y s v).2 }:Co)):=by
      unfold Co.store;rw [if_neg (fun e=>by rcases e with e|e;rw [h4.1] at e;cases e;rw [h8] at e;cases e.2)]
     rw [h0] at hR;rw [h5] at HL;have x1:=jF h;clear hf hx h d h0 h4 he h1 h5 h8;go_in;go_wp2_with fail;refine ch.mono ?_;rintro e w1 ⟨rfl,ho⟩;have F1:=aA (F0.out.aN ho);obtain ⟨z0,ci⟩:=HI.out w1 F1.out;have cl:=HL.out w1 F1.out;clear ch ho F0;go_wp2_with fail;refine ci.mono ?_;rintro e _ ⟨rfl,rfl⟩;clear ci;go_wp2_with fail;refine cl.mono ?_;rintro e w3 ⟨rfl,h6⟩;have F3:=aA (F1.out.aN h6);clear z0;obtain ⟨z3,zb,z0,cs⟩:=G5.stores F3.out HX.out HH.out y s v;clear cl h6 F1 HI HL HG HH;rcases x1 with ⟨hp,hb⟩|⟨hp,hb⟩|⟨x3,x4,hb⟩
     ·obtain ⟨z2,cm⟩:=zb hb;rw [hp] at z3;rw [hb] at hR;clear zb cs z0 hp hb;go_wp2_with fail;refine cm.mono ?_;rintro e w4 ⟨rfl,z⟩;have F4:=aA z;clear cm z;go_wp2;exact hR.out _ _ ⟨rfl,x,⟨HX.out.on,HX.out.mv,HX.out.m0,HX.out.mv2⟩,F4.out⟩
     ·obtain ⟨z2,cm⟩:=zb hb;rw [hp] at z3;rw [hb] at hR;clear zb cs z0 hp hb;go_wp2_with fail;refine cm.mono ?_;rintro e w4 ⟨rfl,z⟩;have F4:=aA z;clear cm z;go_wp2;exact hR.out _ _ ⟨rfl,x,⟨HX.out.on,HX.out.mv,HX.out.m0,HX.out.mv2⟩,F4.out⟩
     have h7:Hid (∀ w',Fam w0 w' (G5 b (c.pI (c.m.put (c.m.M.set y s v).2)) x ++ l)->R (.returned (.int .i64 (c.m.M.set y s v).1)) w'):=fun w' h2=>hR.out _ _ (by
      rw [if_neg (by rw [hb];decide)];exact ⟨rfl,x,⟨HX.out.on,HX.out.mv,HX.out.m0,HX.out.mv2⟩,h2⟩)
     clear hR HX zb hb;generalize (c.m.M.set y s v).1=s1 at*;generalize c.pI (c.m.put (c.m.M.set y s v).2)=c2 at*;generalize c.ph=ph at*;go_wp2_with fail;refine cs.mono ?_;rintro e w4 ⟨rfl,z⟩;have F4:=aA z;clear cs z;go_wp2_with fail;exact h7.out _ F4.out
   | false=>
    rw [h1] at HI;have h0:c.store y s v=if c.bar=true then ((c.m.store y s v).1,({ c with m:=(c.m.store y s v).2 }:Co)) else ((c.m.M.set y s v).1,({ c with m:=c.m.put (c.m.M.set y s v).2 }:Co)):=by
     unfold Co.store;rw [if_neg (fun e=>by rcases e with e|e;rw [h4.1] at e;cases e;rw [h1] at e;cases e.1)]
    rw [h0] at hR;have x1:=jF h;clear hf hx h d h0 h4 he h1;go_in;go_wp2_with fail;refine ch.mono ?_;rintro e w1 ⟨rfl,ho⟩;have F3:=aA (F0.out.aN ho);obtain ⟨z0,ci⟩:=HI.out w1 F3.out;clear ch ho F0;go_wp2_with fail;refine ci.mono ?_;rintro e _ ⟨rfl,rfl⟩;clear ci z0;obtain ⟨z3,zb,z0,cs⟩:=G5.stores F3.out HX.out HH.out y s v;clear HI HH;rcases x1 with ⟨hp,hb⟩|⟨hp,hb⟩|⟨x3,x4,hb⟩
    ·obtain ⟨z2,cm⟩:=zb hb;rw [hp] at z3;rw [hb] at hR;clear zb cs z0 hp hb;go_wp2_with fail;refine cm.mono ?_;rintro e w4 ⟨rfl,z⟩;have F4:=aA z;clear cm z;go_wp2;exact hR.out _ _ ⟨rfl,x,⟨HX.out.on,HX.out.mv,HX.out.m0,HX.out.mv2⟩,F4.out⟩
    ·obtain ⟨z2,cm⟩:=zb hb;rw [hp] at z3;rw [hb] at hR;clear zb cs z0 hp hb;go_wp2_with fail;refine cm.mono ?_;rintro e w4 ⟨rfl,z⟩;have F4:=aA z;clear cm z;go_wp2;exact hR.out _ _ ⟨rfl,x,⟨HX.out.on,HX.out.mv,HX.out.m0,HX.out.mv2⟩,F4.out⟩
    have h7:Hid (∀ w',Fam w0 w' (G5 b (c.pI (c.m.put (c.m.M.set y s v).2)) x ++ l)->R (.returned (.int .i64 (c.m.M.set y s v).1)) w'):=fun w' h2=>hR.out _ _ (by
     rw [if_neg (by rw [hb];decide)];exact ⟨rfl,x,⟨HX.out.on,HX.out.mv,HX.out.m0,HX.out.mv2⟩,h2⟩)
    clear hR HX zb hb;generalize (c.m.M.set y s v).1=s1 at*;generalize c.pI (c.m.put (c.m.M.set y s v).2)=c2 at*;generalize c.ph=ph at*;go_wp2_with fail;refine cs.mono ?_;rintro e w4 ⟨rfl,z⟩;have F4:=aA z;clear cs z;go_wp2_with fail;exact h7.out _ F4.out
  obtain ⟨h1,x2⟩:=aBn (v:=v) he;have h0:=aCp h4.1 h1 x2 he;rw [h0] at hR;have x5:((c.m.M.isRef y s).2 != 0)=true:=by simpa using he
  clear hf hx h d h0 h4 he h1 x2;generalize (c.m.M.isRef y s).1=i1 at*;generalize (c.m.M.isRef y s).2=i2 at*;go_in;go_wp2_with fail;refine ch.mono ?_;rintro e w1 ⟨rfl,ho⟩;have F1:=aA (F0.out.aN ho);obtain ⟨z0,ci⟩:=HI.out w1 F1.out;clear ch ho F0 HI;go_wp2_with fail;refine ci.mono ?_;rintro e _ ⟨rfl,rfl⟩;clear ci z0;go_wp2;exact hR.out _ _ ⟨rfl,x,HX.out,F1.out⟩
end
section
variable {w0 w w':World} {l:List Asn} {b:Nat} {c:Co} {x:GX5} {i:Nat} {m:Mk} {t:Tb}
theorem aHH (w:World) (d:Fam w0 w (G5 b c x ++ l)) (k:Int) (v:Value) (y:List Bool) (hv:aAw w v y) (hl:y.length<=1000000):Calls prog 143 #[.pointer (some ⟨x.q,0,none⟩),.int .i64 k,v] w (fun e w'=>e=.returned (.tuple #[.int .i64 (c.m.M.aH k y).1,.int .i64 (c.m.M.aH k y).2.1])/\Fam w0 w' (G5 b (c.pI (c.m.put (c.m.M.aH k y).2.2)) x ++ l)):=
 d.aDn 0 rfl (M':=(c.m.M.aH k y).2.2) (fun z=>z.aH k y) (fun L X hr z=>pK w hr z k v y hv hl)
theorem oP (w:World) (z:Fam w0 w (G5 b c x ++ l)) (k a n:Int):Calls prog 174 #[.pointer (some ⟨x.q,0,none⟩),.int .i64 k,.int .i64 a,.int .i64 n] w (fun e w'=>e=.returned (.tuple #[.int .i64 (c.m.M.aG k a n).1,.int .i64 (c.m.M.aG k a n).2.1])/\Fam w0 w' (G5 b (c.pI (c.m.put (c.m.M.aG k a n).2.2)) x ++ l)):=
 z.aDn 0 rfl (M':=(c.m.M.aG k a n).2.2) (fun y=>y.aG k a n) (fun L X hr y=>rU w hr y k a n)
theorem zC (w:World) (hf:Fam w0 w (G5 b c x ++ l)) (hx:x.ok c) (h:c.Ok) (k:Int) (va:Option Addr) (n vc:Nat) (z:List Bool) (hn:z.length=n) (hl:n<=1000000) (hv:∀ wx (c':Co) (x':GX5),Fam w0 wx (G5 b c' x' ++ l)->aAw wx (.slice va n vc) z) :
  Calls prog 92 #[.pointer (some ⟨b,0,none⟩),.int .i64 k,.slice va n vc] w (qK w0 l b (c.aH k z)):=by
 refine aF fun R hR=>?_;obtain ⟨_,_,_,_,_,x5,_⟩:=bF.cells hf;unfold Co.aH at hR
 by_cases y:k<0\/10<=k\/7<z.length
 ·rw [if_pos y] at hR;rw [hn] at y;have HE:Hid (qK w0 l b (0,1,c) (.returned (.tuple #[.int .i64 0,.int .i64 1])) w):=⟨rfl,x,hx,hf⟩;clear hf hx h hv hn hl
  by_cases b1:k<0
  ·clear y;go_in;go_wp2;exact hR.out _ _ HE.out
  by_cases b2:10<=k
  ·clear y;go_in;go_wp2;exact hR.out _ _ HE.out
  have b3:(7:Int)<n:=by omega
  clear y;go_in;go_wp2;exact hR.out _ _ HE.out
 rw [if_neg y] at hR;rw [hn] at y;have b1:¬ k<0:=by omega
 have b2:¬ 10<=k:=by omega
 have b3:¬ (7:Int)<n:=by omega
 have cg:=zG w hf hx h c.rate ⟨h.k.rt.1,by have:=h.k.rt.2;omega⟩;have h5:=aA (h.give h.k.rt.1);have HV:=aA hv;have HL:=aA hl;have HN:=aA hn;clear hf hx h y hv hl hn;obtain ⟨d,hd⟩:∃ d,d=(c.give c.rate).2:=⟨_,rfl⟩;rw [<-hd] at cg h5 hR;generalize (c.give c.rate).1=gn at*;clear hd;go_in;go_wp2_with fail;refine cg.mono ?_;rintro e w1 ⟨rfl,h0,h8,h3⟩;have z3:=(bF.cells h3).2.2.2.1;have h6:=HV.out w1 d h0 h3;have h1:=aA h8;unfold Co.newObj at hR;clear cg;rcases jF h5.out.k with ⟨hp,hb⟩|⟨hp,hb⟩|⟨x1,x2,hb⟩;rotate_left 2
 ·have cm:=aHH w1 h3 k (.slice va n vc) z h6 (by rw [HN.out];exact HL.out);replace cm:Calls _ _ _ w1 (fun e w'=>e=.returned (.tuple #[.int .i64 (d.m.M.aH k z).1,.int .i64 (d.m.M.aH k z).2.1])/\Fam w0 w' (G5 b { d with m:=d.m.put (d.m.M.aH k z).2.2 } h0 ++ l)):=cm;have z0:=(bF.cells h3).1;have HR:Hid (∀ w',Fam w0 w' (G5 b { d with m:=d.m.put (d.m.M.aH k z).2.2 } h0 ++ l)->R (.returned (.tuple #[.int .i64 (d.m.M.aH k z).1,.int .i64 (d.m.M.aH k z).2.1])) w'):=fun w' h2=>hR.out _ _ (by
   rw [if_neg (by rw [hb];decide)];exact ⟨rfl,h0,⟨h1.out.on,h1.out.mv,h1.out.m0,h1.out.mv2⟩,h2⟩)
  clear hR h3 h8 h6 hb h5;generalize d.m.M.aH k z=r at*;obtain ⟨r1,r2,r3⟩:=r;generalize h9:d.ph=ph at*;clear h9;go_wp2_with fail;refine cm.mono ?_;rintro e w2 ⟨rfl,h4⟩;have HE:=aA h4;clear cm h4;go_wp2_with fail;exact HR.out _ HE.out
 all_goals
  have h7:h0.on=true:=h8.on.trans hb;have cm:=zF w1 (G5.t2 (b:=b) (c:=d) (x:=h0) (l:=l)) (G5.toR h7 h3) (h5.out.k.mo (by first|exact .inl hp|exact .inr hp)) k (.slice va n vc) z h6 (by rw [HN.out];exact HL.out);rw [G5.rl h7] at cm;replace cm:Calls _ _ _ w1 (fun e w'=>e=.returned (.tuple #[.int .i64 (d.m.aH k z).1,.int .i64 (d.m.aH k z).2.1])/\Fam w0 w' (G5 b { d with m:=(d.m.aH k z).2.2 } h0 ++ l)):=cm;have z2:=G5.m2 h7 h3;have HR:Hid (∀ w',Fam w0 w' (G5 b { d with m:=(d.m.aH k z).2.2 } h0 ++ l)->R (.returned (.tuple #[.int .i64 (d.m.aH k z).1,.int .i64 (d.m.aH k z).2.1])) w'):=fun w' h2=>hR.out _ _ (by
   rw [if_pos hb];exact ⟨rfl,h0,⟨h1.out.on,h1.out.mv,h1.out.m0,h1.out.mv2⟩,h2⟩)
  rw [hp] at z3;clear hR h3 h8 h6 h7 hp hb;generalize d.m.aH k z=r at*;obtain ⟨r1,r2,r3⟩:=r;go_wp2_with fail;refine cm.mono ?_;rintro e w2 ⟨rfl,h4⟩;have HE:=aA h4;clear cm h4;go_wp2_with fail;exact HR.out _ HE.out
theorem aAp (w:World) (hf:Fam w0 w (G5 b c x ++ l)) (hx:x.ok c) (k a n:Int) (y:n<0\/48<n\/¬ ((k=3/\a=0)\/(k=4/\0<=a/\a<10))):Calls prog 93 #[.pointer (some ⟨b,0,none⟩),.int .i64 k,.int .i64 a,.int .i64 n] w (qK w0 l b (0,1,c)):=by
 refine aF fun R d=>?_;have z:Hid (qK w0 l b (0,1,c) (.returned (.tuple #[.int .i64 0,.int .i64 1])) w):=⟨rfl,x,hx,hf⟩;clear hf hx
 by_cases b1:n<0
 ·clear y;go_in;go_wp2;exact d.out _ _ z.out
 by_cases b2:48<n
 ·clear y;go_in;go_wp2;exact d.out _ _ z.out
 by_cases b3:a<0
 ·clear y;go_in;go_wp2;exact d.out _ _ z.out
 by_cases b4:10<=a
 ·clear y;go_in;go_wp2;exact d.out _ _ z.out
 by_cases k3:k=3
 ·subst k3;have ha:(a != 0)=true:=by
   rw [bne_iff_ne];intro e;rcases y with h|h|h
   ·exact b1 h
   ·exact b2 h
   exact h (.inl ⟨rfl,e⟩)
  clear y;go_in;go_wp2;exact d.out _ _ z.out
 have k4:(k != 4)=true:=by
  rw [bne_iff_ne];intro e;rcases y with h|h|h
  ·exact b1 h
  ·exact b2 h
  exact h (.inr ⟨e,by omega,by omega⟩)
 have h0:(k != 3)=true:=by rw [bne_iff_ne];exact k3
 have h1:(k == 3)=false:=by rw [beq_eq_false_iff_ne];exact k3
 clear y k3;go_in;go_wp2;exact d.out _ _ z.out
theorem zD (w:World) (hf:Fam w0 w (G5 b c x ++ l)) (hx:x.ok c) (h:c.Ok) (k a n:Int) (b1:¬ n<0) (b2:¬ 48<n) (hk:(k=3/\a=0)\/(k=4/\0<=a/\a<10)):Calls prog 93 #[.pointer (some ⟨b,0,none⟩),.int .i64 k,.int .i64 a,.int .i64 n] w (qK w0 l b ((c.give (c.rate*aBa n)).2.dJ k a n)):=by
 refine aF fun R hR=>?_;obtain ⟨_,_,_,_,_,x5,_⟩:=bF.cells hf;have x9:=uX (n:=n) (by omega) (by omega);have x7:=h.k.rt;obtain ⟨an,h9⟩:∃ an,an=aBa n:=⟨_,rfl⟩;have h8:Hid ((7<n/\an=1+(n+7).tdiv 8)\/(¬ 7<n/\an=1)):=by
  show _\/_;rw [h9];unfold aBa
  by_cases e:7<n
  ·rw [if_pos e];exact .inl ⟨e,rfl⟩
  rw [if_neg e];exact .inr ⟨e,rfl⟩
 rw [<-h9] at hR x9;obtain ⟨gm,x1⟩:∃ gm,gm=c.rate*an:=⟨_,rfl⟩;have x6:0<=gm/\gm<=10000:=by
  rw [x1];refine ⟨Int.mul_nonneg x7.1 (by omega),?_⟩;have h1:c.rate*an<=100*an:=Int.mul_le_mul_of_nonneg_right x7.2 (by omega);omega
 have x8:c.rate*an=gm:=x1.symm;rw [x8] at hR;have hw:IntKind.i64.wrap gm=gm:=IntWalk.i64_in (by omega) (by omega);have cg:=zG w hf hx h gm x6;have h6:=aA (h.give x6.1);have a1:¬ a<0:=by omega
 have a2:¬ 10<=a:=by omega
 clear hf hx h h9 x1;generalize c.rate=rt at*;obtain ⟨d,hd⟩:∃ d,d=(c.give gm).2:=⟨_,rfl⟩;rw [<-hd] at cg h6 hR;generalize (c.give gm).1=gn at*;clear hd;have iE:Hid (∀ w1 (y:GX5),y.ok d->Fam w0 w1 (G5 b d y ++ l)->True):=fun _ _ _ _=>trivial;rcases h8.out with ⟨n7,hq⟩|⟨n7,hq⟩
 ·obtain ⟨q,x4⟩:∃ q,q=(n+7).tdiv 8:=⟨_,rfl⟩;have y0:(n+7).tdiv 8=q:=x4.symm;have y1:0<=q/\q<=6:=by rw [x4,Int.tdiv_eq_ediv_of_nonneg (by omega)];omega
  rw [y0] at hq;subst hq;clear x4 h8 iE;rcases hk with ⟨rfl,rfl⟩|⟨rfl,_,_⟩
  ·go_in;go_wp2_with fail;refine cg.mono ?_;rintro e w1 ⟨rfl,y,h5,h0⟩;have z3:=(bF.cells h0).2.2.2.1;have z:=aA h5;unfold Co.dJ at hR;clear cg;rcases jF h6.out.k with ⟨hp,hb⟩|⟨hp,hb⟩|⟨x2,x3,hb⟩;rotate_left 2
   ·have cm:=oP w1 h0 3 0 n;replace cm:Calls _ _ _ w1 (fun e w'=>e=.returned (.tuple #[.int .i64 (d.m.M.aG 3 0 n).1,.int .i64 (d.m.M.aG 3 0 n).2.1])/\Fam w0 w' (G5 b { d with m:=d.m.put (d.m.M.aG 3 0 n).2.2 } y ++ l)):=cm;have z0:=(bF.cells h0).1;have HR:Hid (∀ w',Fam w0 w' (G5 b { d with m:=d.m.put (d.m.M.aG 3 0 n).2.2 } y ++ l)->R (.returned (.tuple #[.int .i64 (d.m.M.aG 3 0 n).1,.int .i64 (d.m.M.aG 3 0 n).2.1])) w'):=fun w' h2=>hR.out _ _ (by
     rw [if_neg (by rw [hb];decide)];exact ⟨rfl,y,⟨z.out.on,z.out.mv,z.out.m0,z.out.mv2⟩,h2⟩)
    clear hR h0 h5 hb h6;generalize d.m.M.aG 3 0 n=r at*;obtain ⟨r1,r2,r3⟩:=r;generalize h7:d.ph=ph at*;clear h7;go_wp2_with fail;refine cm.mono ?_;rintro e w2 ⟨rfl,h3⟩;have HE:=aA h3;clear cm h3;go_wp2_with fail;exact HR.out _ HE.out
   all_goals
    have h4:y.on=true:=h5.on.trans hb;have cm:=jB w1 (G5.t2 (b:=b) (c:=d) (x:=y) (l:=l)) (G5.toR h4 h0) (h6.out.k.mo (by first|exact .inl hp|exact .inr hp)) 3 0 n;rw [G5.rl h4] at cm;replace cm:Calls _ _ _ w1 (fun e w'=>e=.returned (.tuple #[.int .i64 (d.m.aG 3 0 n).1,.int .i64 (d.m.aG 3 0 n).2.1])/\Fam w0 w' (G5 b { d with m:=(d.m.aG 3 0 n).2.2 } y ++ l)):=cm;have z2:=G5.m2 h4 h0;have HR:Hid (∀ w',Fam w0 w' (G5 b { d with m:=(d.m.aG 3 0 n).2.2 } y ++ l)->R (.returned (.tuple #[.int .i64 (d.m.aG 3 0 n).1,.int .i64 (d.m.aG 3 0 n).2.1])) w'):=fun w' h2=>hR.out _ _ (by
     rw [if_pos hb];exact ⟨rfl,y,⟨z.out.on,z.out.mv,z.out.m0,z.out.mv2⟩,h2⟩)
    rw [hp] at z3;clear hR h0 h5 h4 hp hb;generalize d.m.aG 3 0 n=r at*;obtain ⟨r1,r2,r3⟩:=r;go_wp2_with fail;refine cm.mono ?_;rintro e w2 ⟨rfl,h3⟩;have HE:=aA h3;clear cm h3;go_wp2_with fail;exact HR.out _ HE.out
  go_in;go_wp2_with fail;refine cg.mono ?_;rintro e w1 ⟨rfl,y,h5,h0⟩;have z3:=(bF.cells h0).2.2.2.1;have z:=aA h5;unfold Co.dJ at hR;clear cg;rcases jF h6.out.k with ⟨hp,hb⟩|⟨hp,hb⟩|⟨x2,x3,hb⟩;rotate_left 2
  ·have cm:=oP w1 h0 4 a n;replace cm:Calls _ _ _ w1 (fun e w'=>e=.returned (.tuple #[.int .i64 (d.m.M.aG 4 a n).1,.int .i64 (d.m.M.aG 4 a n).2.1])/\Fam w0 w' (G5 b { d with m:=d.m.put (d.m.M.aG 4 a n).2.2 } y ++ l)):=cm;have z0:=(bF.cells h0).1;have HR:Hid (∀ w',Fam w0 w' (G5 b { d with m:=d.m.put (d.m.M.aG 4 a n).2.2 } y ++ l)->R (.returned (.tuple #[.int .i64 (d.m.M.aG 4 a n).1,.int .i64 (d.m.M.aG 4 a n).2.1])) w'):=fun w' h2=>hR.out _ _ (by
    rw [if_neg (by rw [hb];decide)];exact ⟨rfl,y,⟨z.out.on,z.out.mv,z.out.m0,z.out.mv2⟩,h2⟩)
   clear hR h0 h5 hb h6;generalize d.m.M.aG 4 a n=r at*;obtain ⟨r1,r2,r3⟩:=r;generalize h7:d.ph=ph at*;clear h7;go_wp2_with fail;refine cm.mono ?_;rintro e w2 ⟨rfl,h3⟩;have HE:=aA h3;clear cm h3;go_wp2_with fail;exact HR.out _ HE.out
  all_goals
   have h4:y.on=true:=h5.on.trans hb;have cm:=jB w1 (G5.t2 (b:=b) (c:=d) (x:=y) (l:=l)) (G5.toR h4 h0) (h6.out.k.mo (by first|exact .inl hp|exact .inr hp)) 4 a n;rw [G5.rl h4] at cm;replace cm:Calls _ _ _ w1 (fun e w'=>e=.returned (.tuple #[.int .i64 (d.m.aG 4 a n).1,.int .i64 (d.m.aG 4 a n).2.1])/\Fam w0 w' (G5 b { d with m:=(d.m.aG 4 a n).2.2 } y ++ l)):=cm;have z2:=G5.m2 h4 h0;have HR:Hid (∀ w',Fam w0 w' (G5 b { d with m:=(d.m.aG 4 a n).2.2 } y ++ l)->R (.returned (.tuple #[.int .i64 (d.m.aG 4 a n).1,.int .i64 (d.m.aG 4 a n).2.1])) w'):=fun w' h2=>hR.out _ _ (by
    rw [if_pos hb];exact ⟨rfl,y,⟨z.out.on,z.out.mv,z.out.m0,z.out.mv2⟩,h2⟩)
   rw [hp] at z3;clear hR h0 h5 h4 hp hb;generalize d.m.aG 4 a n=r at*;obtain ⟨r1,r2,r3⟩:=r;go_wp2_with fail;refine cm.mono ?_;rintro e w2 ⟨rfl,h3⟩;have HE:=aA h3;clear cm h3;go_wp2_with fail;exact HR.out _ HE.out
 subst hq;clear h8 iE;rcases hk with ⟨rfl,rfl⟩|⟨rfl,_,_⟩
 ·go_in;go_wp2_with fail;refine cg.mono ?_;rintro e w1 ⟨rfl,y,h5,h0⟩;have z3:=(bF.cells h0).2.2.2.1;have z:=aA h5;unfold Co.dJ at hR;clear cg;rcases jF h6.out.k with ⟨hp,hb⟩|⟨hp,hb⟩|⟨x2,x3,hb⟩;rotate_left 2
  ·have cm:=oP w1 h0 3 0 n;replace cm:Calls _ _ _ w1 (fun e w'=>e=.returned (.tuple #[.int .i64 (d.m.M.aG 3 0 n).1,.int .i64 (d.m.M.aG 3 0 n).2.1])/\Fam w0 w' (G5 b { d with m:=d.m.put (d.m.M.aG 3 0 n).2.2 } y ++ l)):=cm;have z0:=(bF.cells h0).1;have HR:Hid (∀ w',Fam w0 w' (G5 b { d with m:=d.m.put (d.m.M.aG 3 0 n).2.2 } y ++ l)->R (.returned (.tuple #[.int .i64 (d.m.M.aG 3 0 n).1,.int .i64 (d.m.M.aG 3 0 n).2.1])) w'):=fun w' h2=>hR.out _ _ (by
    rw [if_neg (by rw [hb];decide)];exact ⟨rfl,y,⟨z.out.on,z.out.mv,z.out.m0,z.out.mv2⟩,h2⟩)
   clear hR h0 h5 hb h6;generalize d.m.M.aG 3 0 n=r at*;obtain ⟨r1,r2,r3⟩:=r;generalize h7:d.ph=ph at*;clear h7;go_wp2_with fail;refine cm.mono ?_;rintro e w2 ⟨rfl,h3⟩;have HE:=aA h3;clear cm h3;go_wp2_with fail;exact HR.out _ HE.out
  all_goals
   have h4:y.on=true:=h5.on.trans hb;have cm:=jB w1 (G5.t2 (b:=b) (c:=d) (x:=y) (l:=l)) (G5.toR h4 h0) (h6.out.k.mo (by first|exact .inl hp|exact .inr hp)) 3 0 n;rw [G5.rl h4] at cm;replace cm:Calls _ _ _ w1 (fun e w'=>e=.returned (.tuple #[.int .i64 (d.m.aG 3 0 n).1,.int .i64 (d.m.aG 3 0 n).2.1])/\Fam w0 w' (G5 b { d with m:=(d.m.aG 3 0 n).2.2 } y ++ l)):=cm;have z2:=G5.m2 h4 h0;have HR:Hid (∀ w',Fam w0 w' (G5 b { d with m:=(d.m.aG 3 0 n).2.2 } y ++ l)->R (.returned (.tuple #[.int .i64 (d.m.aG 3 0 n).1,.int .i64 (d.m.aG 3 0 n).2.1])) w'):=fun w' h2=>hR.out _ _ (by
    rw [if_pos hb];exact ⟨rfl,y,⟨z.out.on,z.out.mv,z.out.m0,z.out.mv2⟩,h2⟩)
   rw [hp] at z3;clear hR h0 h5 h4 hp hb;generalize d.m.aG 3 0 n=r at*;obtain ⟨r1,r2,r3⟩:=r;go_wp2_with fail;refine cm.mono ?_;rintro e w2 ⟨rfl,h3⟩;have HE:=aA h3;clear cm h3;go_wp2_with fail;exact HR.out _ HE.out
 go_in;go_wp2_with fail;refine cg.mono ?_;rintro e w1 ⟨rfl,y,h5,h0⟩;have z3:=(bF.cells h0).2.2.2.1;have z:=aA h5;unfold Co.dJ at hR;clear cg;rcases jF h6.out.k with ⟨hp,hb⟩|⟨hp,hb⟩|⟨x2,x3,hb⟩;rotate_left 2
 ·have cm:=oP w1 h0 4 a n;replace cm:Calls _ _ _ w1 (fun e w'=>e=.returned (.tuple #[.int .i64 (d.m.M.aG 4 a n).1,.int .i64 (d.m.M.aG 4 a n).2.1])/\Fam w0 w' (G5 b { d with m:=d.m.put (d.m.M.aG 4 a n).2.2 } y ++ l)):=cm;have z0:=(bF.cells h0).1;have HR:Hid (∀ w',Fam w0 w' (G5 b { d with m:=d.m.put (d.m.M.aG 4 a n).2.2 } y ++ l)->R (.returned (.tuple #[.int .i64 (d.m.M.aG 4 a n).1,.int .i64 (d.m.M.aG 4 a n).2.1])) w'):=fun w' h2=>hR.out _ _ (by
   rw [if_neg (by rw [hb];decide)];exact ⟨rfl,y,⟨z.out.on,z.out.mv,z.out.m0,z.out.mv2⟩,h2⟩)
  clear hR h0 h5 hb h6;generalize d.m.M.aG 4 a n=r at*;obtain ⟨r1,r2,r3⟩:=r;generalize h7:d.ph=ph at*;clear h7;go_wp2_with fail;refine cm.mono ?_;rintro e w2 ⟨rfl,h3⟩;have HE:=aA h3;clear cm h3;go_wp2_with fail;exact HR.out _ HE.out
 all_goals
  have h4:y.on=true:=h5.on.trans hb;have cm:=jB w1 (G5.t2 (b:=b) (c:=d) (x:=y) (l:=l)) (G5.toR h4 h0) (h6.out.k.mo (by first|exact .inl hp|exact .inr hp)) 4 a n;rw [G5.rl h4] at cm;replace cm:Calls _ _ _ w1 (fun e w'=>e=.returned (.tuple #[.int .i64 (d.m.aG 4 a n).1,.int .i64 (d.m.aG 4 a n).2.1])/\Fam w0 w' (G5 b { d with m:=(d.m.aG 4 a n).2.2 } y ++ l)):=cm;have z2:=G5.m2 h4 h0;have HR:Hid (∀ w',Fam w0 w' (G5 b { d with m:=(d.m.aG 4 a n).2.2 } y ++ l)->R (.returned (.tuple #[.int .i64 (d.m.aG 4 a n).1,.int .i64 (d.m.aG 4 a n).2.1])) w'):=fun w' h2=>hR.out _ _ (by
   rw [if_pos hb];exact ⟨rfl,y,⟨z.out.on,z.out.mv,z.out.m0,z.out.mv2⟩,h2⟩)
  rw [hp] at z3;clear hR h0 h5 h4 hp hb;generalize d.m.aG 4 a n=r at*;obtain ⟨r1,r2,r3⟩:=r;go_wp2_with fail;refine cm.mono ?_;rintro e w2 ⟨rfl,h3⟩;have HE:=aA h3;clear cm h3;go_wp2_with fail;exact HR.out _ HE.out
theorem aAq (w:World) (z:Fam w0 w (G5 b c x ++ l)) (hx:x.ok c) (h:c.Ok) (k a n:Int):Calls prog 93 #[.pointer (some ⟨b,0,none⟩),.int .i64 k,.int .i64 a,.int .i64 n] w (qK w0 l b (c.aG k a n)):=by
 unfold Co.aG
 by_cases y:n<0\/48<n\/¬ ((k=3/\a=0)\/(k=4/\0<=a/\a<10))
 ·rw [if_pos y];exact aAp w z hx k a n y
 rw [if_neg y];exact zD w z hx h k a n (fun e=>y (.inl e)) (fun e=>y (.inr (.inl e))) (Classical.not_not.1 (fun e=>y (.inr (.inr e))))
end
end Go.Proofs.YthflghdaejbdkaaGreat
