/- Lemmas of this claim. -/
import Derived.Test.YthflghdaejbdkaaGreatXdCyR
import Derived.Test.YthflghdaejbdkaaGreatXdCyZD
namespace Go.Proofs.YthflghdaejbdkaaGreat
open _root_.Go.Proofs.Tryz (prog)
open Go.RowKit Go.Maps
set_option maxHeartbeats 6400000
set_option maxRecDepth 100000
set_option linter.unusedVariables false
def aPn (w0:World) (l:List Asn) (b:Nat) (r:Int×Co) (e:Ending) (w':World):Prop:=e=.returned (.int .i64 r.1)/\∃ x':GX5,x'.ok r.2/\Fam w0 w' (G5 b r.2 x' ++ l)
section
variable {w0 w w':World} {l:List Asn} {b:Nat} {c:Co} {x:GX5} {i:Nat} {m:Mk} {t:Tb}
theorem aJZ {M:Hp} {y s:Int} (h:(M.ob y).isSome=false):M.get y s=(0,3):=by
 unfold Hp.get
 cases e:M.ob y with
 | none=>rfl
 | some o=>rw [e] at h;cases h
theorem aKy {M:Hp} {y s v:Int} (h:(M.ob y).isSome=false):M.set y s v=(3,M):=by
 unfold Hp.set
 cases e:M.ob y with
 | none=>rfl
 | some o=>rw [e] at h;cases h
theorem aGm {M:Hp} {y s:Int} (h:(M.ob y).isSome=false):M.isRef y s=(false,3):=by
 unfold Hp.isRef
 cases e:M.ob y with
 | none=>rfl
 | some o=>rw [e] at h;cases h
theorem aGb {m:Mk} {y s v:Int} (h:(m.M.set y s v).1≠0):m.store y s v=((m.M.set y s v).1,m):=by
 unfold Mk.store;simp only;rw [if_neg (fun e=>h e.1)];rcases aHP m.M y s v with ⟨_,h2⟩|⟨o,j,_,_,_,_,h1,_⟩
 ·rw [h2];rfl
 exact absurd h1 h
theorem aBF {y s v e:Int} (hh:c.hid y=false) (hr:(c.m.M.isRef y s).1=false) (h:c.m.M.set y s v=(e,c.m.M)) (he:e≠0):c.store y s v=(e,c):=by
 unfold Co.store;rw [if_neg (fun x=>by rcases x with x|x;rw [hh] at x;cases x;rw [hr] at x;cases x.1)]
 split
 ·rw [aGb (by rw [h];exact he),h]
 rw [h];rfl
theorem aAG {M:Hp} {y s v:Int} (h:(M.isRef y s).2≠0):(M.isRef y s).1=false/\M.set y s v=((M.isRef y s).2,M):=by
 unfold Hp.isRef at h ⊢;unfold Hp.set
 cases e:M.ob y with
 | none=>exact ⟨rfl,rfl⟩
 | some o=>
  rw [e] at h;simp only at h ⊢
  by_cases h1:s<0\/(o.slots.length:Int)<=s
  ·rw [if_pos h1,if_pos h1];exact ⟨rfl,rfl⟩
  rw [if_neg h1] at h;exact absurd rfl h
theorem aJc (w:World) (hf:Fam w0 w (G5 b c x ++ l)) (hx:x.ok c) (h:c.Okc) (y s:Int):Calls prog 99 #[.pointer (some ⟨b,0,none⟩),.int .i64 y,.int .i64 s] w (fun e w'=>e=.returned (.tuple #[.int .i64 (c.get y s).1,.int .i64 (c.get y s).2])/\Only [] w w'):=by
 refine aF fun R hR=>?_;have ch:=qX w hf hx h y;have HF:=aA hf;unfold Co.get at hR
 cases hh:c.gone y with
 | true=>
  have hv:(if c.hid y=true then ((0:Int),(3:Int)) else c.m.M.get y s)=(0,3):=by
   unfold Co.gone at hh
   cases e:c.hid y with
   | true=>rfl
   | false=>
    rw [e,Bool.or_false] at hh;exact aJZ (by simpa using hh)
  rw [hv] at hR;rw [hh] at ch;clear hf hx h hh hv;go_in;go_wp2_with fail;refine ch.mono ?_;rintro e w1 ⟨rfl,ho⟩;have HO:=aA ho;clear ch ho;go_wp2_with fail;exact hR.out _ _ ⟨rfl,HO.out⟩
 | false=>
  have hv:(if c.hid y=true then ((0:Int),(3:Int)) else c.m.M.get y s)=c.m.M.get y s:=by
   unfold Co.gone at hh
   cases e:c.hid y with
   | true=>rw [e,Bool.or_true] at hh;cases hh
   | false=>rfl
  rw [hv] at hR;rw [hh] at ch;have HC:Hid (∀ wx,Only [] w wx->wx.cell? ⟨b,0,none⟩=some (.pointer (some ⟨x.q,0,none⟩))/\Calls prog 182 #[.pointer (some ⟨x.q,0,none⟩),.int .i64 y,.int .i64 s] wx (aK wx (.tuple #[.int .i64 (c.m.M.get y s).1,.int .i64 (c.m.M.get y s).2]))):=fun wx ho=>by
   have f2:=HF.out.aN ho;obtain ⟨hk,L,X,hp⟩:=G5.gh f2;exact ⟨(aY.cells f2).1,aAZ wx hp hk y s⟩
  clear hf hx h hh hv HF;generalize (c.m.M.get y s).1=g1 at*;generalize (c.m.M.get y s).2=g2 at*;go_in;go_wp2_with fail;refine ch.mono ?_;rintro e w1 ⟨rfl,ho⟩;obtain ⟨z0,cg⟩:=HC.out w1 ho;have HO:=aA ho;clear ch ho HC;go_wp2_with fail;refine cg.mono ?_;rintro e _ ⟨rfl,rfl⟩;clear cg;go_wp2_with fail;exact hR.out _ _ ⟨rfl,HO.out⟩
theorem G5.stores (hf:Fam w0 w (G5 b c x ++ l)) (hx:x.ok c) (h:c.Okc) (y s v:Int):w.cell? ⟨b,3,none⟩=some (.int .i64 (c.ph:Int))/\(c.bar=true->w.cell? ⟨b,2,none⟩=some (.pointer (some ⟨x.r,0,none⟩))/\Calls prog 148 #[.pointer (some ⟨x.r,0,none⟩),.int .i64 y,.int .i64 s,.int .i64 v] w (fun e w'=>e=.returned (.int .i64 (c.m.store y s v).1)/\Fam w0 w' (G5 b (c.oH (c.m.store y s v).2) x ++ l)))/\w.cell? ⟨b,0,none⟩=some (.pointer (some ⟨x.q,0,none⟩))/\Calls prog 144 #[.pointer (some ⟨x.q,0,none⟩),.int .i64 y,.int .i64 s,.int .i64 v] w (fun e w'=>e=.returned (.int .i64 (c.m.M.set y s v).1)/\Fam w0 w' (G5 b (c.oH (c.m.put (c.m.M.set y s v).2)) x ++ l)):=by
 have hcs:=aY.cells hf;refine ⟨hcs.2.2.2.1,fun hb=>?_,hcs.1,aCJ w hf y s v⟩;have hon:x.on=true:=hx.on.trans hb;refine ⟨G5.m2 hon hf,?_⟩;have:=aDX w (G5.t2 (b:=b) (c:=c) (x:=x) (l:=l)) (G5.toR hon hf) (h.mo (dD.1 hb)) y s v;rw [G5.rl hon] at this;exact this
theorem iV (h:c.Okc):(c.ph=1/\c.bar=true)\/(c.ph=2/\c.bar=true)\/(((c.ph:Int) == 1)=false/\((c.ph:Int) == 2)=false/\c.bar=false):=by
 by_cases h1:c.ph=1
 ·exact .inl ⟨h1,dD.2 (.inl h1)⟩
 by_cases h2:c.ph=2
 ·exact .inr (.inl ⟨h2,dD.2 (.inr h2)⟩)
 exact .inr (.inr ⟨by rw [beq_eq_false_iff_ne];omega,by rw [beq_eq_false_iff_ne];omega,aAs h1 h2⟩)
theorem aGw (w:World) (hf:Fam w0 w (G5 b c x ++ l)) (hx:x.ok c) (h:c.Okc) (y s v:Int):Calls prog 94 #[.pointer (some ⟨b,0,none⟩),.int .i64 y,.int .i64 s,.int .i64 v] w (aPn w0 l b (c.store y s v)):=by
 refine aF fun R hR=>?_;have ch:=qX w hf hx h y;have F0:=aA hf;have HX:=aA hx;have HH:=aA h
 cases hgy:c.gone y with
 | true=>
  have hv:c.store y s v=(3,c):=by
   cases e:c.hid y with
   | true=>unfold Co.store;rw [if_pos (.inl e)]
   | false=>
    unfold Co.gone at hgy;rw [e,Bool.or_false] at hgy;have hn:(c.m.M.ob y).isSome=false:=by simpa using hgy
    exact aBF e (by rw [aGm hn]) (aKy hn) (by decide)
  rw [hv] at hR;rw [hgy] at ch;clear hf hx h hgy hv;go_in;go_wp2_with fail;refine ch.mono ?_;rintro e w1 ⟨rfl,ho⟩;have F1:=aA (F0.out.aN ho);clear ch ho F0;go_wp2_with fail;exact hR.out _ _ ⟨rfl,x,HX.out,F1.out⟩
 | false=>
  have hhy:c.hid y=false/\(c.m.M.ob y).isSome=true:=by
   unfold Co.gone at hgy
   cases e:c.hid y with
   | true=>rw [e,Bool.or_true] at hgy;cases hgy
   | false=>rw [e,Bool.or_false] at hgy;exact ⟨rfl,by simpa using hgy⟩
  rw [hgy] at ch;have HI:Hid (∀ wx,Fam w0 wx (G5 b c x ++ l)->wx.cell? ⟨b,0,none⟩=some (.pointer (some ⟨x.q,0,none⟩))/\Calls prog 176 #[.pointer (some ⟨x.q,0,none⟩),.int .i64 y,.int .i64 s] wx (aK wx (.tuple #[.bool (c.m.M.isRef y s).1,.int .i64 (c.m.M.isRef y s).2]))):=fun wx hwx=>by
   obtain ⟨hk,L,X,hp⟩:=G5.gh hwx;exact ⟨(aY.cells hwx).1,tJ wx hp hk y s⟩
  by_cases he:(c.m.M.isRef y s).2=0
  ·rw [he] at HI
   cases hir:(c.m.M.isRef y s).1 with
   | true=>
    rw [hir] at HI;have HL:Hid (∀ wx,Fam w0 wx (G5 b c x ++ l)->Calls prog 58 #[.pointer (some ⟨x.q,0,none⟩),.int .i64 v] wx (fun e w'=>e=.returned (.bool (c.m.M.ob v).isSome)/\Only [] wx w')):=fun wx hwx=>by
     obtain ⟨hk,L,X,hp⟩:=G5.gh hwx;exact kX wx hp hk v
    have HG:Hid (∀ wx,Fam w0 wx (G5 b c x ++ l)->Calls prog 175 #[.pointer (some ⟨b,0,none⟩),.int .i64 v] wx (fun e w'=>e=.returned (.bool (c.gone v))/\Only [] wx w')):=fun wx hwx=>qX wx hwx HX.out HH.out v
    cases hlv:(c.m.M.ob v).isSome with
    | true=>
     rw [hlv] at HL
     cases hgv:c.gone v with
     | true=>
      have hvv:c.store y s v=(3,c):=by
       unfold Co.store;rw [if_pos (.inr ⟨hir,by unfold Co.gone at hgv;rw [hlv] at hgv;simpa using hgv⟩)]
      rw [hvv] at hR;rw [hgv] at HG;clear hf hx h hgy hvv hhy he hir hlv hgv;go_in;go_wp2_with fail;refine ch.mono ?_;rintro e w1 ⟨rfl,ho⟩;have F1:=aA (F0.out.aN ho);obtain ⟨z0,ci⟩:=HI.out w1 F1.out;have cl:=HL.out w1 F1.out;clear ch ho F0;go_wp2_with fail;refine ci.mono ?_;rintro e _ ⟨rfl,rfl⟩;clear ci;go_wp2_with fail;refine cl.mono ?_;rintro e w2 ⟨rfl,ho2⟩;have F2:=aA (F1.out.aN ho2);have cg:=HG.out w2 F2.out;clear cl ho2 F1 z0;go_wp2_with fail;refine cg.mono ?_;rintro e w3 ⟨rfl,ho3⟩;have F3:=aA (F2.out.aN ho3);clear cg ho3 F2;go_wp2_with fail;exact hR.out _ _ ⟨rfl,x,HX.out,F3.out⟩
     | false=>
      have hhv:c.hid v=false:=by
       unfold Co.gone at hgv
       cases e:c.hid v with
       | true=>rw [e,Bool.or_true] at hgv;cases hgv
       | false=>rfl
      have hvv:c.store y s v=if c.bar=true then ((c.m.store y s v).1,({ c with m:=(c.m.store y s v).2 }:Co)) else ((c.m.M.set y s v).1,({ c with m:=c.m.put (c.m.M.set y s v).2 }:Co)):=by
       unfold Co.store;rw [if_neg (fun e=>by rcases e with e|e;rw [hhy.1] at e;cases e;rw [hhv] at e;cases e.2)]
      rw [hvv] at hR;rw [hgv] at HG;have hpb:=iV h;clear hf hx h hgy hvv hhy he hir hlv hgv hhv;go_in;go_wp2_with fail;refine ch.mono ?_;rintro e w1 ⟨rfl,ho⟩;have F1:=aA (F0.out.aN ho);obtain ⟨z0,ci⟩:=HI.out w1 F1.out;have cl:=HL.out w1 F1.out;clear ch ho F0;go_wp2_with fail;refine ci.mono ?_;rintro e _ ⟨rfl,rfl⟩;clear ci;go_wp2_with fail;refine cl.mono ?_;rintro e w2 ⟨rfl,ho2⟩;have F2:=aA (F1.out.aN ho2);have cg:=HG.out w2 F2.out;clear cl ho2 F1 z0;go_wp2_with fail;refine cg.mono ?_;rintro e w3 ⟨rfl,ho3⟩;have F3:=aA (F2.out.aN ho3);obtain ⟨z3,zb,z0,cs⟩:=G5.stores F3.out HX.out HH.out y s v;clear cg ho3 F2 HI HL HG HH;rcases hpb with ⟨hp,hb⟩|⟨hp,hb⟩|⟨hp1,hp2,hb⟩
      ·obtain ⟨z2,cm⟩:=zb hb;rw [hp] at z3;rw [hb] at hR;clear zb cs z0 hp hb;go_wp2_with fail;refine cm.mono ?_;rintro e w4 ⟨rfl,hf4⟩;have F4:=aA hf4;clear cm hf4;go_wp2_with fail;exact hR.out _ _ ⟨rfl,x,⟨HX.out.on,HX.out.mv,HX.out.m0,HX.out.mv2⟩,F4.out⟩
      ·obtain ⟨z2,cm⟩:=zb hb;rw [hp] at z3;rw [hb] at hR;clear zb cs z0 hp hb;go_wp2_with fail;refine cm.mono ?_;rintro e w4 ⟨rfl,hf4⟩;have F4:=aA hf4;clear cm hf4;go_wp2_with fail;exact hR.out _ _ ⟨rfl,x,⟨HX.out.on,HX.out.mv,HX.out.m0,HX.out.mv2⟩,F4.out⟩
      have HR3:Hid (∀ w',Fam w0 w' (G5 b (c.oH (c.m.put (c.m.M.set y s v).2)) x ++ l)->R (.returned (.int .i64 (c.m.M.set y s v).1)) w'):=fun w' h2=>hR.out _ _ (by
       rw [if_neg (by rw [hb];decide)];exact ⟨rfl,x,⟨HX.out.on,HX.out.mv,HX.out.m0,HX.out.mv2⟩,h2⟩)
      clear hR HX zb hb;generalize (c.m.M.set y s v).1=s1 at*;generalize c.oH (c.m.put (c.m.M.set y s v).2)=c2 at*;generalize c.ph=ph at*;go_wp2_with fail;refine cs.mono ?_;rintro e w4 ⟨rfl,hf4⟩;have F4:=aA hf4;clear cs hf4;go_wp2_with fail;exact HR3.out _ F4.out
    | false=>
     have hhv:c.hid v=false:=by
      unfold Co.hid;split
      ·unfold Mk.isW;rw [hlv];rfl
      refine decide_eq_false fun e=>?_;have:=h.su v e;rw [hlv] at this;cases this
     have hvv:c.store y s v=if c.bar=true then ((c.m.store y s v).1,({ c with m:=(c.m.store y s v).2 }:Co)) else ((c.m.M.set y s v).1,({ c with m:=c.m.put (c.m.M.set y s v).2 }:Co)):=by
      unfold Co.store;rw [if_neg (fun e=>by rcases e with e|e;rw [hhy.1] at e;cases e;rw [hhv] at e;cases e.2)]
     rw [hvv] at hR;rw [hlv] at HL;have hpb:=iV h;clear hf hx h hgy hvv hhy he hir hlv hhv;go_in;go_wp2_with fail;refine ch.mono ?_;rintro e w1 ⟨rfl,ho⟩;have F1:=aA (F0.out.aN ho);obtain ⟨z0,ci⟩:=HI.out w1 F1.out;have cl:=HL.out w1 F1.out;clear ch ho F0;go_wp2_with fail;refine ci.mono ?_;rintro e _ ⟨rfl,rfl⟩;clear ci;go_wp2_with fail;refine cl.mono ?_;rintro e w3 ⟨rfl,ho2⟩;have F3:=aA (F1.out.aN ho2);clear z0;obtain ⟨z3,zb,z0,cs⟩:=G5.stores F3.out HX.out HH.out y s v;clear cl ho2 F1 HI HL HG HH;rcases hpb with ⟨hp,hb⟩|⟨hp,hb⟩|⟨hp1,hp2,hb⟩
     ·obtain ⟨z2,cm⟩:=zb hb;rw [hp] at z3;rw [hb] at hR;clear zb cs z0 hp hb;go_wp2_with fail;refine cm.mono ?_;rintro e w4 ⟨rfl,hf4⟩;have F4:=aA hf4;clear cm hf4;go_wp2_with fail;exact hR.out _ _ ⟨rfl,x,⟨HX.out.on,HX.out.mv,HX.out.m0,HX.out.mv2⟩,F4.out⟩
     ·obtain ⟨z2,cm⟩:=zb hb;rw [hp] at z3;rw [hb] at hR;clear zb cs z0 hp hb;go_wp2_with fail;refine cm.mono ?_;rintro e w4 ⟨rfl,hf4⟩;have F4:=aA hf4;clear cm hf4;go_wp2_with fail;exact hR.out _ _ ⟨rfl,x,⟨HX.out.on,HX.out.mv,HX.out.m0,HX.out.mv2⟩,F4.out⟩
     have HR3:Hid (∀ w',Fam w0 w' (G5 b (c.oH (c.m.put (c.m.M.set y s v).2)) x ++ l)->R (.returned (.int .i64 (c.m.M.set y s v).1)) w'):=fun w' h2=>hR.out _ _ (by
      rw [if_neg (by rw [hb];decide)];exact ⟨rfl,x,⟨HX.out.on,HX.out.mv,HX.out.m0,HX.out.mv2⟩,h2⟩)
     clear hR HX zb hb;generalize (c.m.M.set y s v).1=s1 at*;generalize c.oH (c.m.put (c.m.M.set y s v).2)=c2 at*;generalize c.ph=ph at*;go_wp2_with fail;refine cs.mono ?_;rintro e w4 ⟨rfl,hf4⟩;have F4:=aA hf4;clear cs hf4;go_wp2_with fail;exact HR3.out _ F4.out
   | false=>
    rw [hir] at HI;have hvv:c.store y s v=if c.bar=true then ((c.m.store y s v).1,({ c with m:=(c.m.store y s v).2 }:Co)) else ((c.m.M.set y s v).1,({ c with m:=c.m.put (c.m.M.set y s v).2 }:Co)):=by
     unfold Co.store;rw [if_neg (fun e=>by rcases e with e|e;rw [hhy.1] at e;cases e;rw [hir] at e;cases e.1)]
    rw [hvv] at hR;have hpb:=iV h;clear hf hx h hgy hvv hhy he hir;go_in;go_wp2_with fail;refine ch.mono ?_;rintro e w1 ⟨rfl,ho⟩;have F3:=aA (F0.out.aN ho);obtain ⟨z0,ci⟩:=HI.out w1 F3.out;clear ch ho F0;go_wp2_with fail;refine ci.mono ?_;rintro e _ ⟨rfl,rfl⟩;clear ci z0;obtain ⟨z3,zb,z0,cs⟩:=G5.stores F3.out HX.out HH.out y s v;clear HI HH;rcases hpb with ⟨hp,hb⟩|⟨hp,hb⟩|⟨hp1,hp2,hb⟩
    ·obtain ⟨z2,cm⟩:=zb hb;rw [hp] at z3;rw [hb] at hR;clear zb cs z0 hp hb;go_wp2_with fail;refine cm.mono ?_;rintro e w4 ⟨rfl,hf4⟩;have F4:=aA hf4;clear cm hf4;go_wp2_with fail;exact hR.out _ _ ⟨rfl,x,⟨HX.out.on,HX.out.mv,HX.out.m0,HX.out.mv2⟩,F4.out⟩
    ·obtain ⟨z2,cm⟩:=zb hb;rw [hp] at z3;rw [hb] at hR;clear zb cs z0 hp hb;go_wp2_with fail;refine cm.mono ?_;rintro e w4 ⟨rfl,hf4⟩;have F4:=aA hf4;clear cm hf4;go_wp2_with fail;exact hR.out _ _ ⟨rfl,x,⟨HX.out.on,HX.out.mv,HX.out.m0,HX.out.mv2⟩,F4.out⟩
    have HR3:Hid (∀ w',Fam w0 w' (G5 b (c.oH (c.m.put (c.m.M.set y s v).2)) x ++ l)->R (.returned (.int .i64 (c.m.M.set y s v).1)) w'):=fun w' h2=>hR.out _ _ (by
     rw [if_neg (by rw [hb];decide)];exact ⟨rfl,x,⟨HX.out.on,HX.out.mv,HX.out.m0,HX.out.mv2⟩,h2⟩)
    clear hR HX zb hb;generalize (c.m.M.set y s v).1=s1 at*;generalize c.oH (c.m.put (c.m.M.set y s v).2)=c2 at*;generalize c.ph=ph at*;go_wp2_with fail;refine cs.mono ?_;rintro e w4 ⟨rfl,hf4⟩;have F4:=aA hf4;clear cs hf4;go_wp2_with fail;exact HR3.out _ F4.out
  obtain ⟨hir,hset⟩:=aAG (v:=v) he;have hvv:=aBF hhy.1 hir hset he;rw [hvv] at hR;have heb:((c.m.M.isRef y s).2 != 0)=true:=by simpa using he
  clear hf hx h hgy hvv hhy he hir hset;generalize (c.m.M.isRef y s).1=i1 at*;generalize (c.m.M.isRef y s).2=i2 at*;go_in;go_wp2_with fail;refine ch.mono ?_;rintro e w1 ⟨rfl,ho⟩;have F1:=aA (F0.out.aN ho);obtain ⟨z0,ci⟩:=HI.out w1 F1.out;clear ch ho F0 HI;go_wp2_with fail;refine ci.mono ?_;rintro e _ ⟨rfl,rfl⟩;clear ci z0;go_wp2_with fail;exact hR.out _ _ ⟨rfl,x,HX.out,F1.out⟩
end
section
variable {w0 w w':World} {l:List Asn} {b:Nat} {c:Co} {x:GX5} {i:Nat} {m:Mk} {t:Tb}
theorem aGE (w:World) (hf:Fam w0 w (G5 b c x ++ l)) (k:Int) (v:Value) (bl:List Bool) (hv:aAx w v bl) (hl:bl.length<=1000000):Calls prog 143 #[.pointer (some ⟨x.q,0,none⟩),.int .i64 k,v] w (fun e w'=>e=.returned (.tuple #[.int .i64 (c.m.M.aH k bl).1,.int .i64 (c.m.M.aH k bl).2.1])/\Fam w0 w' (G5 b (c.oH (c.m.put (c.m.M.aH k bl).2.2)) x ++ l)):=
 hf.aCA 0 rfl (M':=(c.m.M.aH k bl).2.2) (fun hk=>hk.aH k bl) (fun L X hr hk=>oK w hr hk k v bl hv hl)
theorem nV (w:World) (hf:Fam w0 w (G5 b c x ++ l)) (k a n:Int):Calls prog 174 #[.pointer (some ⟨x.q,0,none⟩),.int .i64 k,.int .i64 a,.int .i64 n] w (fun e w'=>e=.returned (.tuple #[.int .i64 (c.m.M.aG k a n).1,.int .i64 (c.m.M.aG k a n).2.1])/\Fam w0 w' (G5 b (c.oH (c.m.put (c.m.M.aG k a n).2.2)) x ++ l)):=
 hf.aCA 0 rfl (M':=(c.m.M.aG k a n).2.2) (fun hk=>hk.aG k a n) (fun L X hr hk=>qW w hr hk k a n)
theorem yD (w:World) (hf:Fam w0 w (G5 b c x ++ l)) (hx:x.ok c) (h:c.Ok) (k:Int) (va:Option Addr) (n vc:Nat) (bl:List Bool) (hn:bl.length=n) (hl:n<=1000000) (hv:∀ wx (c':Co) (x':GX5),Fam w0 wx (G5 b c' x' ++ l)->aAx wx (.slice va n vc) bl) :
  Calls prog 92 #[.pointer (some ⟨b,0,none⟩),.int .i64 k,.slice va n vc] w (pK w0 l b (c.aH k bl)):=by
 refine aF fun R hR=>?_;obtain ⟨_,_,_,_,_,x5,_⟩:=aY.cells hf;unfold Co.aH at hR
 by_cases hbad:k<0\/10<=k\/7<bl.length
 ·rw [if_pos hbad] at hR;rw [hn] at hbad;have HE:Hid (pK w0 l b (0,1,c) (.returned (.tuple #[.int .i64 0,.int .i64 1])) w):=⟨rfl,x,hx,hf⟩;clear hf hx h hv hn hl
  by_cases b1:k<0
  ·clear hbad;go_in;go_wp2_with fail;exact hR.out _ _ HE.out
  by_cases b2:10<=k
  ·clear hbad;go_in;go_wp2_with fail;exact hR.out _ _ HE.out
  have b3:(7:Int)<n:=by omega
  clear hbad;go_in;go_wp2_with fail;exact hR.out _ _ HE.out
 rw [if_neg hbad] at hR;rw [hn] at hbad;have b1:¬ k<0:=by omega
 have b2:¬ 10<=k:=by omega
 have b3:¬ (7:Int)<n:=by omega
 have cg:=yF w hf hx h c.rate ⟨h.k.rt.1,by have:=h.k.rt.2;omega⟩;have HOK:=aA (h.give h.k.rt.1);have HV:=aA hv;have HL:=aA hl;have HN:=aA hn;clear hf hx h hbad hv hl hn;obtain ⟨d,hd⟩:∃ d,d=(c.give c.rate).2:=⟨_,rfl⟩;rw [<-hd] at cg HOK hR;generalize (c.give c.rate).1=gn at*;clear hd;go_in;go_wp2_with fail;refine cg.mono ?_;rintro e w1 ⟨rfl,x1',hx1,hf1⟩;have z3:=(aY.cells hf1).2.2.2.1;have hba:=HV.out w1 d x1' hf1;have HX1:=aA hx1;unfold Co.newObj at hR;clear cg;rcases iV HOK.out.k with ⟨hp,hb⟩|⟨hp,hb⟩|⟨hp1,hp2,hb⟩
 ·have hon:x1'.on=true:=hx1.on.trans hb;have cm:=mY w1 (G5.t2 (b:=b) (c:=d) (x:=x1') (l:=l)) (G5.toR hon hf1) (HOK.out.k.mo (.inl hp)) k (.slice va n vc) bl hba (by rw [HN.out];exact HL.out);rw [G5.rl hon] at cm;replace cm:Calls _ _ _ w1 (fun e w'=>e=.returned (.tuple #[.int .i64 (d.m.aH k bl).1,.int .i64 (d.m.aH k bl).2.1])/\Fam w0 w' (G5 b { d with m:=(d.m.aH k bl).2.2 } x1' ++ l)):=cm;have z2:=G5.m2 hon hf1;have HR:Hid (∀ w',Fam w0 w' (G5 b { d with m:=(d.m.aH k bl).2.2 } x1' ++ l)->R (.returned (.tuple #[.int .i64 (d.m.aH k bl).1,.int .i64 (d.m.aH k bl).2.1])) w'):=fun w' h2=>hR.out _ _ (by
   rw [if_pos hb];exact ⟨rfl,x1',⟨HX1.out.on,HX1.out.mv,HX1.out.m0,HX1.out.mv2⟩,h2⟩)
  rw [hp] at z3;clear hR hf1 hx1 hba hon hp hb;generalize d.m.aH k bl=r at*;obtain ⟨r1,r2,r3⟩:=r;go_wp2_with fail;refine cm.mono ?_;rintro e w2 ⟨rfl,hf2⟩;have HE:=aA hf2;clear cm hf2;go_wp2_with fail;exact HR.out _ HE.out
 ·have hon:x1'.on=true:=hx1.on.trans hb;have cm:=mY w1 (G5.t2 (b:=b) (c:=d) (x:=x1') (l:=l)) (G5.toR hon hf1) (HOK.out.k.mo (.inr hp)) k (.slice va n vc) bl hba (by rw [HN.out];exact HL.out);rw [G5.rl hon] at cm;replace cm:Calls _ _ _ w1 (fun e w'=>e=.returned (.tuple #[.int .i64 (d.m.aH k bl).1,.int .i64 (d.m.aH k bl).2.1])/\Fam w0 w' (G5 b { d with m:=(d.m.aH k bl).2.2 } x1' ++ l)):=cm;have z2:=G5.m2 hon hf1;have HR:Hid (∀ w',Fam w0 w' (G5 b { d with m:=(d.m.aH k bl).2.2 } x1' ++ l)->R (.returned (.tuple #[.int .i64 (d.m.aH k bl).1,.int .i64 (d.m.aH k bl).2.1])) w'):=fun w' h2=>hR.out _ _ (by
   rw [if_pos hb];exact ⟨rfl,x1',⟨HX1.out.on,HX1.out.mv,HX1.out.m0,HX1.out.mv2⟩,h2⟩)
  rw [hp] at z3;clear hR hf1 hx1 hba hon hp hb;generalize d.m.aH k bl=r at*;obtain ⟨r1,r2,r3⟩:=r;go_wp2_with fail;refine cm.mono ?_;rintro e w2 ⟨rfl,hf2⟩;have HE:=aA hf2;clear cm hf2;go_wp2_with fail;exact HR.out _ HE.out
 have cm:=aGE w1 hf1 k (.slice va n vc) bl hba (by rw [HN.out];exact HL.out);replace cm:Calls _ _ _ w1 (fun e w'=>e=.returned (.tuple #[.int .i64 (d.m.M.aH k bl).1,.int .i64 (d.m.M.aH k bl).2.1])/\Fam w0 w' (G5 b { d with m:=d.m.put (d.m.M.aH k bl).2.2 } x1' ++ l)):=cm;have z0:=(aY.cells hf1).1;have HR:Hid (∀ w',Fam w0 w' (G5 b { d with m:=d.m.put (d.m.M.aH k bl).2.2 } x1' ++ l)->R (.returned (.tuple #[.int .i64 (d.m.M.aH k bl).1,.int .i64 (d.m.M.aH k bl).2.1])) w'):=fun w' h2=>hR.out _ _ (by
  rw [if_neg (by rw [hb];decide)];exact ⟨rfl,x1',⟨HX1.out.on,HX1.out.mv,HX1.out.m0,HX1.out.mv2⟩,h2⟩)
 clear hR hf1 hx1 hba hb HOK;generalize d.m.M.aH k bl=r at*;obtain ⟨r1,r2,r3⟩:=r;generalize aLb:d.ph=ph at*;clear aLb;go_wp2_with fail;refine cm.mono ?_;rintro e w2 ⟨rfl,hf2⟩;have HE:=aA hf2;clear cm hf2;go_wp2_with fail;exact HR.out _ HE.out
theorem zK (w:World) (hf:Fam w0 w (G5 b c x ++ l)) (hx:x.ok c) (k a n:Int) (hbad:n<0\/48<n\/¬ ((k=3/\a=0)\/(k=4/\0<=a/\a<10))):Calls prog 93 #[.pointer (some ⟨b,0,none⟩),.int .i64 k,.int .i64 a,.int .i64 n] w (pK w0 l b (0,1,c)):=by
 refine aF fun R hR=>?_;have HE:Hid (pK w0 l b (0,1,c) (.returned (.tuple #[.int .i64 0,.int .i64 1])) w):=⟨rfl,x,hx,hf⟩;clear hf hx
 by_cases b1:n<0
 ·clear hbad;go_in;go_wp2_with fail;exact hR.out _ _ HE.out
 by_cases b2:48<n
 ·clear hbad;go_in;go_wp2_with fail;exact hR.out _ _ HE.out
 by_cases b3:a<0
 ·clear hbad;go_in;go_wp2_with fail;exact hR.out _ _ HE.out
 by_cases b4:10<=a
 ·clear hbad;go_in;go_wp2_with fail;exact hR.out _ _ HE.out
 by_cases k3:k=3
 ·subst k3;have ha:(a != 0)=true:=by
   rw [bne_iff_ne];intro e;rcases hbad with h|h|h
   ·exact b1 h
   ·exact b2 h
   exact h (.inl ⟨rfl,e⟩)
  clear hbad;go_in;go_wp2_with fail;exact hR.out _ _ HE.out
 have k4:(k != 4)=true:=by
  rw [bne_iff_ne];intro e;rcases hbad with h|h|h
  ·exact b1 h
  ·exact b2 h
  exact h (.inr ⟨e,by omega,by omega⟩)
 have k3b:(k != 3)=true:=by rw [bne_iff_ne];exact k3
 have k3c:(k == 3)=false:=by rw [beq_eq_false_iff_ne];exact k3
 clear hbad k3;go_in;go_wp2_with fail;exact hR.out _ _ HE.out
theorem yE (w:World) (hf:Fam w0 w (G5 b c x ++ l)) (hx:x.ok c) (h:c.Ok) (k a n:Int) (b1:¬ n<0) (b2:¬ 48<n) (hk:(k=3/\a=0)\/(k=4/\0<=a/\a<10)):Calls prog 93 #[.pointer (some ⟨b,0,none⟩),.int .i64 k,.int .i64 a,.int .i64 n] w (pK w0 l b ((c.give (c.rate*aAu n)).2.gZ k a n)):=by
 refine aF fun R hR=>?_;obtain ⟨_,_,_,_,_,x5,_⟩:=aY.cells hf;have har:=aAt (n:=n) (by omega) (by omega);have hrt:=h.k.rt;obtain ⟨an,han⟩:∃ an,an=aAu n:=⟨_,rfl⟩;have HAN:Hid ((7<n/\an=1+(n+7).tdiv 8)\/(¬ 7<n/\an=1)):=by
  show _\/_;rw [han];unfold aAu
  by_cases e:7<n
  ·rw [if_pos e];exact .inl ⟨e,rfl⟩
  rw [if_neg e];exact .inr ⟨e,rfl⟩
 rw [<-han] at hR har;obtain ⟨gm,hgm⟩:∃ gm,gm=c.rate*an:=⟨_,rfl⟩;have hgr:0<=gm/\gm<=10000:=by
  rw [hgm];refine ⟨Int.mul_nonneg hrt.1 (by omega),?_⟩;have h1:c.rate*an<=100*an:=Int.mul_le_mul_of_nonneg_right hrt.2 (by omega);omega
 have aSJ:c.rate*an=gm:=hgm.symm;rw [aSJ] at hR;have hw:IntKind.i64.wrap gm=gm:=IntWalk.i64_in (by omega) (by omega);have cg:=yF w hf hx h gm hgr;have HOK:=aA (h.give hgr.1);have a1:¬ a<0:=by omega
 have a2:¬ 10<=a:=by omega
 clear hf hx h han hgm;generalize c.rate=rt at*;obtain ⟨d,hd⟩:∃ d,d=(c.give gm).2:=⟨_,rfl⟩;rw [<-hd] at cg HOK hR;generalize (c.give gm).1=gn at*;clear hd;have gU:Hid (∀ w1 (x1':GX5),x1'.ok d->Fam w0 w1 (G5 b d x1' ++ l)->True):=fun _ _ _ _=>trivial;rcases HAN.out with ⟨n7,hq⟩|⟨n7,hq⟩
 ·obtain ⟨q,hq2⟩:∃ q,q=(n+7).tdiv 8:=⟨_,rfl⟩;have hq3:(n+7).tdiv 8=q:=hq2.symm;have hqr:0<=q/\q<=6:=by rw [hq2,Int.tdiv_eq_ediv_of_nonneg (by omega)];omega
  rw [hq3] at hq;subst hq;clear hq2 HAN gU;rcases hk with ⟨rfl,rfl⟩|⟨rfl,_,_⟩
  ·go_in;go_wp2_with fail;refine cg.mono ?_;rintro e w1 ⟨rfl,x1',hx1,hf1⟩;have z3:=(aY.cells hf1).2.2.2.1;have HX1:=aA hx1;unfold Co.gZ at hR;clear cg;rcases iV HOK.out.k with ⟨hp,hb⟩|⟨hp,hb⟩|⟨hp1,hp2,hb⟩
   ·have hon:x1'.on=true:=hx1.on.trans hb;have cm:=dF w1 (G5.t2 (b:=b) (c:=d) (x:=x1') (l:=l)) (G5.toR hon hf1) (HOK.out.k.mo (.inl hp)) 3 0 n;rw [G5.rl hon] at cm;replace cm:Calls _ _ _ w1 (fun e w'=>e=.returned (.tuple #[.int .i64 (d.m.aG 3 0 n).1,.int .i64 (d.m.aG 3 0 n).2.1])/\Fam w0 w' (G5 b { d with m:=(d.m.aG 3 0 n).2.2 } x1' ++ l)):=cm;have z2:=G5.m2 hon hf1;have HR:Hid (∀ w',Fam w0 w' (G5 b { d with m:=(d.m.aG 3 0 n).2.2 } x1' ++ l)->R (.returned (.tuple #[.int .i64 (d.m.aG 3 0 n).1,.int .i64 (d.m.aG 3 0 n).2.1])) w'):=fun w' h2=>hR.out _ _ (by
     rw [if_pos hb];exact ⟨rfl,x1',⟨HX1.out.on,HX1.out.mv,HX1.out.m0,HX1.out.mv2⟩,h2⟩)
    rw [hp] at z3;clear hR hf1 hx1 hon hp hb;generalize d.m.aG 3 0 n=r at*;obtain ⟨r1,r2,r3⟩:=r;go_wp2_with fail;refine cm.mono ?_;rintro e w2 ⟨rfl,hf2⟩;have HE:=aA hf2;clear cm hf2;go_wp2_with fail;exact HR.out _ HE.out
   ·have hon:x1'.on=true:=hx1.on.trans hb;have cm:=dF w1 (G5.t2 (b:=b) (c:=d) (x:=x1') (l:=l)) (G5.toR hon hf1) (HOK.out.k.mo (.inr hp)) 3 0 n;rw [G5.rl hon] at cm;replace cm:Calls _ _ _ w1 (fun e w'=>e=.returned (.tuple #[.int .i64 (d.m.aG 3 0 n).1,.int .i64 (d.m.aG 3 0 n).2.1])/\Fam w0 w' (G5 b { d with m:=(d.m.aG 3 0 n).2.2 } x1' ++ l)):=cm;have z2:=G5.m2 hon hf1;have HR:Hid (∀ w',Fam w0 w' (G5 b { d with m:=(d.m.aG 3 0 n).2.2 } x1' ++ l)->R (.returned (.tuple #[.int .i64 (d.m.aG 3 0 n).1,.int .i64 (d.m.aG 3 0 n).2.1])) w'):=fun w' h2=>hR.out _ _ (by
     rw [if_pos hb];exact ⟨rfl,x1',⟨HX1.out.on,HX1.out.mv,HX1.out.m0,HX1.out.mv2⟩,h2⟩)
    rw [hp] at z3;clear hR hf1 hx1 hon hp hb;generalize d.m.aG 3 0 n=r at*;obtain ⟨r1,r2,r3⟩:=r;go_wp2_with fail;refine cm.mono ?_;rintro e w2 ⟨rfl,hf2⟩;have HE:=aA hf2;clear cm hf2;go_wp2_with fail;exact HR.out _ HE.out
   have cm:=nV w1 hf1 3 0 n;replace cm:Calls _ _ _ w1 (fun e w'=>e=.returned (.tuple #[.int .i64 (d.m.M.aG 3 0 n).1,.int .i64 (d.m.M.aG 3 0 n).2.1])/\Fam w0 w' (G5 b { d with m:=d.m.put (d.m.M.aG 3 0 n).2.2 } x1' ++ l)):=cm;have z0:=(aY.cells hf1).1;have HR:Hid (∀ w',Fam w0 w' (G5 b { d with m:=d.m.put (d.m.M.aG 3 0 n).2.2 } x1' ++ l)->R (.returned (.tuple #[.int .i64 (d.m.M.aG 3 0 n).1,.int .i64 (d.m.M.aG 3 0 n).2.1])) w'):=fun w' h2=>hR.out _ _ (by
    rw [if_neg (by rw [hb];decide)];exact ⟨rfl,x1',⟨HX1.out.on,HX1.out.mv,HX1.out.m0,HX1.out.mv2⟩,h2⟩)
   clear hR hf1 hx1 hb HOK;generalize d.m.M.aG 3 0 n=r at*;obtain ⟨r1,r2,r3⟩:=r;generalize aLb:d.ph=ph at*;clear aLb;go_wp2_with fail;refine cm.mono ?_;rintro e w2 ⟨rfl,hf2⟩;have HE:=aA hf2;clear cm hf2;go_wp2_with fail;exact HR.out _ HE.out
  go_in;go_wp2_with fail;refine cg.mono ?_;rintro e w1 ⟨rfl,x1',hx1,hf1⟩;have z3:=(aY.cells hf1).2.2.2.1;have HX1:=aA hx1;unfold Co.gZ at hR;clear cg;rcases iV HOK.out.k with ⟨hp,hb⟩|⟨hp,hb⟩|⟨hp1,hp2,hb⟩
  ·have hon:x1'.on=true:=hx1.on.trans hb;have cm:=dF w1 (G5.t2 (b:=b) (c:=d) (x:=x1') (l:=l)) (G5.toR hon hf1) (HOK.out.k.mo (.inl hp)) 4 a n;rw [G5.rl hon] at cm;replace cm:Calls _ _ _ w1 (fun e w'=>e=.returned (.tuple #[.int .i64 (d.m.aG 4 a n).1,.int .i64 (d.m.aG 4 a n).2.1])/\Fam w0 w' (G5 b { d with m:=(d.m.aG 4 a n).2.2 } x1' ++ l)):=cm;have z2:=G5.m2 hon hf1;have HR:Hid (∀ w',Fam w0 w' (G5 b { d with m:=(d.m.aG 4 a n).2.2 } x1' ++ l)->R (.returned (.tuple #[.int .i64 (d.m.aG 4 a n).1,.int .i64 (d.m.aG 4 a n).2.1])) w'):=fun w' h2=>hR.out _ _ (by
    rw [if_pos hb];exact ⟨rfl,x1',⟨HX1.out.on,HX1.out.mv,HX1.out.m0,HX1.out.mv2⟩,h2⟩)
   rw [hp] at z3;clear hR hf1 hx1 hon hp hb;generalize d.m.aG 4 a n=r at*;obtain ⟨r1,r2,r3⟩:=r;go_wp2_with fail;refine cm.mono ?_;rintro e w2 ⟨rfl,hf2⟩;have HE:=aA hf2;clear cm hf2;go_wp2_with fail;exact HR.out _ HE.out
  ·have hon:x1'.on=true:=hx1.on.trans hb;have cm:=dF w1 (G5.t2 (b:=b) (c:=d) (x:=x1') (l:=l)) (G5.toR hon hf1) (HOK.out.k.mo (.inr hp)) 4 a n;rw [G5.rl hon] at cm;replace cm:Calls _ _ _ w1 (fun e w'=>e=.returned (.tuple #[.int .i64 (d.m.aG 4 a n).1,.int .i64 (d.m.aG 4 a n).2.1])/\Fam w0 w' (G5 b { d with m:=(d.m.aG 4 a n).2.2 } x1' ++ l)):=cm;have z2:=G5.m2 hon hf1;have HR:Hid (∀ w',Fam w0 w' (G5 b { d with m:=(d.m.aG 4 a n).2.2 } x1' ++ l)->R (.returned (.tuple #[.int .i64 (d.m.aG 4 a n).1,.int .i64 (d.m.aG 4 a n).2.1])) w'):=fun w' h2=>hR.out _ _ (by
    rw [if_pos hb];exact ⟨rfl,x1',⟨HX1.out.on,HX1.out.mv,HX1.out.m0,HX1.out.mv2⟩,h2⟩)
   rw [hp] at z3;clear hR hf1 hx1 hon hp hb;generalize d.m.aG 4 a n=r at*;obtain ⟨r1,r2,r3⟩:=r;go_wp2_with fail;refine cm.mono ?_;rintro e w2 ⟨rfl,hf2⟩;have HE:=aA hf2;clear cm hf2;go_wp2_with fail;exact HR.out _ HE.out
  have cm:=nV w1 hf1 4 a n;replace cm:Calls _ _ _ w1 (fun e w'=>e=.returned (.tuple #[.int .i64 (d.m.M.aG 4 a n).1,.int .i64 (d.m.M.aG 4 a n).2.1])/\Fam w0 w' (G5 b { d with m:=d.m.put (d.m.M.aG 4 a n).2.2 } x1' ++ l)):=cm;have z0:=(aY.cells hf1).1;have HR:Hid (∀ w',Fam w0 w' (G5 b { d with m:=d.m.put (d.m.M.aG 4 a n).2.2 } x1' ++ l)->R (.returned (.tuple #[.int .i64 (d.m.M.aG 4 a n).1,.int .i64 (d.m.M.aG 4 a n).2.1])) w'):=fun w' h2=>hR.out _ _ (by
   rw [if_neg (by rw [hb];decide)];exact ⟨rfl,x1',⟨HX1.out.on,HX1.out.mv,HX1.out.m0,HX1.out.mv2⟩,h2⟩)
  clear hR hf1 hx1 hb HOK;generalize d.m.M.aG 4 a n=r at*;obtain ⟨r1,r2,r3⟩:=r;generalize aLb:d.ph=ph at*;clear aLb;go_wp2_with fail;refine cm.mono ?_;rintro e w2 ⟨rfl,hf2⟩;have HE:=aA hf2;clear cm hf2;go_wp2_with fail;exact HR.out _ HE.out
 subst hq;clear HAN gU;rcases hk with ⟨rfl,rfl⟩|⟨rfl,_,_⟩
 ·go_in;go_wp2_with fail;refine cg.mono ?_;rintro e w1 ⟨rfl,x1',hx1,hf1⟩;have z3:=(aY.cells hf1).2.2.2.1;have HX1:=aA hx1;unfold Co.gZ at hR;clear cg;rcases iV HOK.out.k with ⟨hp,hb⟩|⟨hp,hb⟩|⟨hp1,hp2,hb⟩
  ·have hon:x1'.on=true:=hx1.on.trans hb;have cm:=dF w1 (G5.t2 (b:=b) (c:=d) (x:=x1') (l:=l)) (G5.toR hon hf1) (HOK.out.k.mo (.inl hp)) 3 0 n;rw [G5.rl hon] at cm;replace cm:Calls _ _ _ w1 (fun e w'=>e=.returned (.tuple #[.int .i64 (d.m.aG 3 0 n).1,.int .i64 (d.m.aG 3 0 n).2.1])/\Fam w0 w' (G5 b { d with m:=(d.m.aG 3 0 n).2.2 } x1' ++ l)):=cm;have z2:=G5.m2 hon hf1;have HR:Hid (∀ w',Fam w0 w' (G5 b { d with m:=(d.m.aG 3 0 n).2.2 } x1' ++ l)->R (.returned (.tuple #[.int .i64 (d.m.aG 3 0 n).1,.int .i64 (d.m.aG 3 0 n).2.1])) w'):=fun w' h2=>hR.out _ _ (by
    rw [if_pos hb];exact ⟨rfl,x1',⟨HX1.out.on,HX1.out.mv,HX1.out.m0,HX1.out.mv2⟩,h2⟩)
   rw [hp] at z3;clear hR hf1 hx1 hon hp hb;generalize d.m.aG 3 0 n=r at*;obtain ⟨r1,r2,r3⟩:=r;go_wp2_with fail;refine cm.mono ?_;rintro e w2 ⟨rfl,hf2⟩;have HE:=aA hf2;clear cm hf2;go_wp2_with fail;exact HR.out _ HE.out
  ·have hon:x1'.on=true:=hx1.on.trans hb;have cm:=dF w1 (G5.t2 (b:=b) (c:=d) (x:=x1') (l:=l)) (G5.toR hon hf1) (HOK.out.k.mo (.inr hp)) 3 0 n;rw [G5.rl hon] at cm;replace cm:Calls _ _ _ w1 (fun e w'=>e=.returned (.tuple #[.int .i64 (d.m.aG 3 0 n).1,.int .i64 (d.m.aG 3 0 n).2.1])/\Fam w0 w' (G5 b { d with m:=(d.m.aG 3 0 n).2.2 } x1' ++ l)):=cm;have z2:=G5.m2 hon hf1;have HR:Hid (∀ w',Fam w0 w' (G5 b { d with m:=(d.m.aG 3 0 n).2.2 } x1' ++ l)->R (.returned (.tuple #[.int .i64 (d.m.aG 3 0 n).1,.int .i64 (d.m.aG 3 0 n).2.1])) w'):=fun w' h2=>hR.out _ _ (by
    rw [if_pos hb];exact ⟨rfl,x1',⟨HX1.out.on,HX1.out.mv,HX1.out.m0,HX1.out.mv2⟩,h2⟩)
   rw [hp] at z3;clear hR hf1 hx1 hon hp hb;generalize d.m.aG 3 0 n=r at*;obtain ⟨r1,r2,r3⟩:=r;go_wp2_with fail;refine cm.mono ?_;rintro e w2 ⟨rfl,hf2⟩;have HE:=aA hf2;clear cm hf2;go_wp2_with fail;exact HR.out _ HE.out
  have cm:=nV w1 hf1 3 0 n;replace cm:Calls _ _ _ w1 (fun e w'=>e=.returned (.tuple #[.int .i64 (d.m.M.aG 3 0 n).1,.int .i64 (d.m.M.aG 3 0 n).2.1])/\Fam w0 w' (G5 b { d with m:=d.m.put (d.m.M.aG 3 0 n).2.2 } x1' ++ l)):=cm;have z0:=(aY.cells hf1).1;have HR:Hid (∀ w',Fam w0 w' (G5 b { d with m:=d.m.put (d.m.M.aG 3 0 n).2.2 } x1' ++ l)->R (.returned (.tuple #[.int .i64 (d.m.M.aG 3 0 n).1,.int .i64 (d.m.M.aG 3 0 n).2.1])) w'):=fun w' h2=>hR.out _ _ (by
   rw [if_neg (by rw [hb];decide)];exact ⟨rfl,x1',⟨HX1.out.on,HX1.out.mv,HX1.out.m0,HX1.out.mv2⟩,h2⟩)
  clear hR hf1 hx1 hb HOK;generalize d.m.M.aG 3 0 n=r at*;obtain ⟨r1,r2,r3⟩:=r;generalize aLb:d.ph=ph at*;clear aLb;go_wp2_with fail;refine cm.mono ?_;rintro e w2 ⟨rfl,hf2⟩;have HE:=aA hf2;clear cm hf2;go_wp2_with fail;exact HR.out _ HE.out
 go_in;go_wp2_with fail;refine cg.mono ?_;rintro e w1 ⟨rfl,x1',hx1,hf1⟩;have z3:=(aY.cells hf1).2.2.2.1;have HX1:=aA hx1;unfold Co.gZ at hR;clear cg;rcases iV HOK.out.k with ⟨hp,hb⟩|⟨hp,hb⟩|⟨hp1,hp2,hb⟩
 ·have hon:x1'.on=true:=hx1.on.trans hb;have cm:=dF w1 (G5.t2 (b:=b) (c:=d) (x:=x1') (l:=l)) (G5.toR hon hf1) (HOK.out.k.mo (.inl hp)) 4 a n;rw [G5.rl hon] at cm;replace cm:Calls _ _ _ w1 (fun e w'=>e=.returned (.tuple #[.int .i64 (d.m.aG 4 a n).1,.int .i64 (d.m.aG 4 a n).2.1])/\Fam w0 w' (G5 b { d with m:=(d.m.aG 4 a n).2.2 } x1' ++ l)):=cm;have z2:=G5.m2 hon hf1;have HR:Hid (∀ w',Fam w0 w' (G5 b { d with m:=(d.m.aG 4 a n).2.2 } x1' ++ l)->R (.returned (.tuple #[.int .i64 (d.m.aG 4 a n).1,.int .i64 (d.m.aG 4 a n).2.1])) w'):=fun w' h2=>hR.out _ _ (by
   rw [if_pos hb];exact ⟨rfl,x1',⟨HX1.out.on,HX1.out.mv,HX1.out.m0,HX1.out.mv2⟩,h2⟩)
  rw [hp] at z3;clear hR hf1 hx1 hon hp hb;generalize d.m.aG 4 a n=r at*;obtain ⟨r1,r2,r3⟩:=r;go_wp2_with fail;refine cm.mono ?_;rintro e w2 ⟨rfl,hf2⟩;have HE:=aA hf2;clear cm hf2;go_wp2_with fail;exact HR.out _ HE.out
 ·have hon:x1'.on=true:=hx1.on.trans hb;have cm:=dF w1 (G5.t2 (b:=b) (c:=d) (x:=x1') (l:=l)) (G5.toR hon hf1) (HOK.out.k.mo (.inr hp)) 4 a n;rw [G5.rl hon] at cm;replace cm:Calls _ _ _ w1 (fun e w'=>e=.returned (.tuple #[.int .i64 (d.m.aG 4 a n).1,.int .i64 (d.m.aG 4 a n).2.1])/\Fam w0 w' (G5 b { d with m:=(d.m.aG 4 a n).2.2 } x1' ++ l)):=cm;have z2:=G5.m2 hon hf1;have HR:Hid (∀ w',Fam w0 w' (G5 b { d with m:=(d.m.aG 4 a n).2.2 } x1' ++ l)->R (.returned (.tuple #[.int .i64 (d.m.aG 4 a n).1,.int .i64 (d.m.aG 4 a n).2.1])) w'):=fun w' h2=>hR.out _ _ (by
   rw [if_pos hb];exact ⟨rfl,x1',⟨HX1.out.on,HX1.out.mv,HX1.out.m0,HX1.out.mv2⟩,h2⟩)
  rw [hp] at z3;clear hR hf1 hx1 hon hp hb;generalize d.m.aG 4 a n=r at*;obtain ⟨r1,r2,r3⟩:=r;go_wp2_with fail;refine cm.mono ?_;rintro e w2 ⟨rfl,hf2⟩;have HE:=aA hf2;clear cm hf2;go_wp2_with fail;exact HR.out _ HE.out
 have cm:=nV w1 hf1 4 a n;replace cm:Calls _ _ _ w1 (fun e w'=>e=.returned (.tuple #[.int .i64 (d.m.M.aG 4 a n).1,.int .i64 (d.m.M.aG 4 a n).2.1])/\Fam w0 w' (G5 b { d with m:=d.m.put (d.m.M.aG 4 a n).2.2 } x1' ++ l)):=cm;have z0:=(aY.cells hf1).1;have HR:Hid (∀ w',Fam w0 w' (G5 b { d with m:=d.m.put (d.m.M.aG 4 a n).2.2 } x1' ++ l)->R (.returned (.tuple #[.int .i64 (d.m.M.aG 4 a n).1,.int .i64 (d.m.M.aG 4 a n).2.1])) w'):=fun w' h2=>hR.out _ _ (by
  rw [if_neg (by rw [hb];decide)];exact ⟨rfl,x1',⟨HX1.out.on,HX1.out.mv,HX1.out.m0,HX1.out.mv2⟩,h2⟩)
 clear hR hf1 hx1 hb HOK;generalize d.m.M.aG 4 a n=r at*;obtain ⟨r1,r2,r3⟩:=r;generalize aLb:d.ph=ph at*;clear aLb;go_wp2_with fail;refine cm.mono ?_;rintro e w2 ⟨rfl,hf2⟩;have HE:=aA hf2;clear cm hf2;go_wp2_with fail;exact HR.out _ HE.out
theorem zL (w:World) (hf:Fam w0 w (G5 b c x ++ l)) (hx:x.ok c) (h:c.Ok) (k a n:Int):Calls prog 93 #[.pointer (some ⟨b,0,none⟩),.int .i64 k,.int .i64 a,.int .i64 n] w (pK w0 l b (c.aG k a n)):=by
 unfold Co.aG
 by_cases hbad:n<0\/48<n\/¬ ((k=3/\a=0)\/(k=4/\0<=a/\a<10))
 ·rw [if_pos hbad];exact zK w hf hx k a n hbad
 rw [if_neg hbad];exact yE w hf hx h k a n (fun e=>hbad (.inl e)) (fun e=>hbad (.inr (.inl e))) (Classical.not_not.1 (fun e=>hbad (.inr (.inr e))))
end
end Go.Proofs.YthflghdaejbdkaaGreat
