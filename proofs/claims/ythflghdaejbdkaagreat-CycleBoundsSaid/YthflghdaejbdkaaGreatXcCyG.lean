/- Lemmas of this claim. -/
import Derived.Test.YthflghdaejbdkaaGreatXcTbGD
import Derived.Test.YthflghdaejbdkaaGreatXcCyStar
import Derived.Test.YthflghdaejbdkaaGreatXcTbG
namespace Go.Proofs.YthflghdaejbdkaaGreat
open _root_.Go.Proofs.Tryz (prog)
open Go.RowKit Go.Maps
set_option maxHeartbeats 6400000
set_option maxRecDepth 100000
set_option linter.unusedVariables false
section
variable {l:List Asn} {i j k q r b:Nat} {m:Mk} {t s:Tb} {w0 w w':World} {ev qv wv:Value} {nx:Nat} {wl:List Bool}
theorem aEp (w:World) (T3:Three l i j k) (hf:Fam w0 w (QL l i j k q r b m s)) (hg:s.Good m) (hs:s.Stl m) (hi:s.nx<s.ents.length) (h3:s.ph≠3) (hm:m.Ok):Calls prog 153 #[.pointer (some ⟨b,0,none⟩),.pointer (some ⟨r,0,none⟩),.int .i64 (s.nx:Int)] w (fun e w'=>e=.returned (.tuple #[])/\Fam w0 w' (QL l i j k q r b (s.clear m s.nx).2 (s.clear m s.nx).1)):=by
 have h1:=hs.p1;have h4:=hg.p4
 by_cases z:s.ph=2
 ·have y:=(hs.a (.inr z)).2;rw [z] at y;exact aJj w T3 hf s.nx hi y z (fun hd=>hg.fd z _ (Nat.le_refl _) hi hd) hm hg.b.q20
 refine aJi w T3 hf s.nx hi ?_ z hm.hf.ok
 by_cases h5:s.ph=1
 ·have y:=(hs.a (.inl h5)).2;rw [h5] at y;rw [y];decide
 rw [hs.d (by omega) hi];decide
theorem Tb.aJB (hg:s.Good m) (hs:s.Stl m) (h3:s.ph≠3) (z:aAv s nx):nxt s.ents ((if s.ph<3 then s.ph else 3:Nat):Int) nx=s.nx:=by
 have h1:=hs.p1;have h4:=hg.p4;have:s.ph=1\/s.ph=2\/s.ph=4:=by omega
 rcases this with e|e|e
 ·have y:=hs.a (.inl e);rw [e] at y ⊢;exact (z.1 e).trans (qZ y.1 y.2)
 ·have y:=hs.a (.inr e);rw [e] at y ⊢;exact (z.2.1 e).trans (qZ y.1 y.2)
 rw [e];refine (z.2.2 e).trans ?_
 by_cases hi:s.nx<s.ents.length
 ·exact qZ hi (hs.d e hi)
 rw [aEy (by omega)];have:=hg.nl;omega
theorem aLU (w:World) (T3:Three l i j k) (z:Fam w0 w (QL l i j k q r b m t)) (hg:t.Good m) (hm:m.Ok) (d:t.ph=0):Calls prog 69 #[.pointer (some ⟨b,0,none⟩),.pointer (some ⟨r,0,none⟩)] w (fun e w'=>e=.returned (.tuple #[.int .i64 (t.step m).1,.int .i64 (t.step m).2.1,.int .i64 (t.step m).2.2.1])/\Fam w0 w' (QL l i j k q r b (t.step m).2.2.2.2 (t.step m).2.2.2.1)):=by
 refine aF fun R y=>?_;obtain ⟨ev,qv,wv,nx,wl,ht⟩:=QL.tr T3 z;obtain ⟨z0,z1,z2,z3,z4,zf⟩:=ht.cells;have HF:=aA z;unfold Tb.step at y;rw [if_pos d] at y;rw [d] at z2;replace z2:w.cell? ⟨b,2,none⟩=some (.int .i64 0):=z2;clear z hg hm ht z0 z1 z3 z4 zf d;go_in;go_wp2;refine bodyPost_ret (results_tmp3 rfl _ _ _) rfl ?_;exact y.out _ _ ⟨rfl,HF.out⟩
theorem aLT (w:World) (z:Three l i j k) (y:Fam w0 w (QL l i j k q r b m t)) (hg:t.Good m) (hm:m.Ok) (hp:t.ph≠0) (h3:(t.settle m).ph=3):Calls prog 69 #[.pointer (some ⟨b,0,none⟩),.pointer (some ⟨r,0,none⟩)] w (fun e w'=>e=.returned (.tuple #[.int .i64 (t.step m).1,.int .i64 (t.step m).2.1,.int .i64 (t.step m).2.2.1])/\Fam w0 w' (QL l i j k q r b (t.step m).2.2.2.2 (t.step m).2.2.2.1)):=by
 refine aF fun R d=>?_;obtain ⟨ev,qv,wv,nx,wl,ht⟩:=QL.tr z y;obtain ⟨z0,z1,z2,z3,z4,zf⟩:=ht.cells;have cs:=iC w z y hg (by omega);have h5:((t.ph:Int) == 0)=false:=by rw [beq_eq_false_iff_ne];omega
 have HM:=aA hm;have h1:=hg.settle (m:=m) hm.hf.ok;have h2:=Tb.cO (m:=m) (t:=t) (by omega) hg.p4;unfold Tb.step at d;rw [if_neg hp] at d;simp only at d;clear y hg hm ht z0 z1 z3 z4 zf hp;generalize t.settle m=s at*;have h4:=aA h1;have h6:=aA h2;clear h1 h2;rw [if_pos h3] at d;have H3:=aA h3;clear h3;generalize t.ph=ph at*;go_in;go_wp2_with fail;refine cs.mono ?_;rintro e w1 ⟨rfl,y⟩;clear cs h5 z2;obtain ⟨ev,qv,wv,nx,wl,ht⟩:=QL.tr z y;obtain ⟨z0,z1,z2,z3,z4,zf⟩:=ht.cells;rw [H3.out] at z2;replace z2:w1.cell? ⟨b,2,none⟩=some (.int .i64 3):=z2;have cm:=aDm w1 z.t2 y HM.out;clear y ht zf z0 z1 z3 z4;go_wp2_with fail;refine cm.mono ?_;rintro e w3 ⟨rfl,y⟩;have hM:=Mk.mY (m:=m);have h0:s.Good m.step.2.2:=h4.out.marker (fun k hk=>by rw [hM];exact hk);have cs:=iC w3 z y h0 (by have:=H3.out;omega);clear y hM h0 cm;generalize m.step=rr at*;obtain ⟨r1,r2,r3⟩:=rr;go_wp2_with fail;refine cs.mono ?_;rintro e w4 ⟨rfl,y⟩;have HF:=aA y;clear y cs;go_wp2;refine bodyPost_ret (results_tmp3 rfl _ _ _) rfl ?_;exact d.out _ _ ⟨rfl,HF.out⟩
theorem aEn (w:World) (T3:Three l i j k) (y:Fam w0 w (QL l i j k q r b m t)) (hg:t.Good m) (hm:m.Ok) (hp:t.ph≠0) (h3:(t.settle m).ph≠3) (hl:(t.settle m).ents.length<=(t.settle m).nx):Calls prog 69 #[.pointer (some ⟨b,0,none⟩),.pointer (some ⟨r,0,none⟩)] w (fun e w'=>e=.returned (.tuple #[.int .i64 (t.step m).1,.int .i64 (t.step m).2.1,.int .i64 (t.step m).2.2.1])/\Fam w0 w' (QL l i j k q r b (t.step m).2.2.2.2 (t.step m).2.2.2.1)):=by
 refine aF fun R hR=>?_;obtain ⟨ev,qv,wv,nx,wl,z⟩:=QL.tr T3 y;obtain ⟨z0,z1,z2,z3,z4,zf⟩:=z.cells;have cs:=iC w T3 y hg (by omega);have x2:((t.ph:Int) == 0)=false:=by rw [beq_eq_false_iff_ne];omega
 have HM:=aA hm;have h5:=hg.settle (m:=m) hm.hf.ok;have h8:=Tb.cO (m:=m) (t:=t) (by omega) hg.p4;unfold Tb.step at hR;rw [if_neg hp] at hR;simp only at hR;clear y hg hm z z0 z1 z3 z4 zf hp;generalize t.settle m=s at*;have d:=aA h5;have h0:=aA h8;clear h5 h8;rw [if_neg h3,if_pos hl] at hR;have H3:=aA h3;have h7:s.ph=4:=by
  have h1:=h0.out.p1;have h4:=d.out.p4
  by_cases e:s.ph=1\/s.ph=2
  ·have:=(h0.out.a e).1;omega
  omega
 have H4:=aA h7;have HL:=aA hl;clear h3 hl h7;generalize t.ph=ph at*;go_in;go_wp2_with fail;refine cs.mono ?_;rintro e w1 ⟨rfl,y⟩;clear cs x2 z2;obtain ⟨ev,qv,wv,nx,wl,z⟩:=QL.tr T3 y;obtain ⟨z0,z1,z2,z3,z4,zf⟩:=z.cells;have x1:((s.ph:Int) == 3)=false:=by rw [beq_eq_false_iff_ne];have:=H3.out;omega
 have h6:=Tb.aJB d.out h0.out H3.out z.now;have cl:=kW w1 z d.out.b.le (if s.ph<3 then s.ph else 3) nx;rw [h6] at cl;rw [H4.out] at z2 cl;replace z2:w1.cell? ⟨b,2,none⟩=some (.int .i64 4):=z2;have h2:¬ s.nx<s.ents.length:=by have:=HL.out;omega
 rw [if_neg h2,decide_eq_false h2] at cl;replace cl:Calls prog 152 #[.pointer (some ⟨b,0,none⟩),.int .i64 3,.int .i64 (nx:Int)] w1 _:=cl;have h9:Hid (Fam w0 (w1.setCell ⟨b,2,none⟩ (.int .i64 0)) (QL l i j k q r b m (s.at 0 0))):=QL.aCu T3 y 0 (by omega) 0 (fun _ _ _ _ _ _=>⟨fun e=>by simp [Tb.at] at e,fun e=>by simp [Tb.at] at e,fun e=>by simp [Tb.at] at e⟩);have f2:=zf 2;clear y z zf z0 z1 z4 h6 h2 x1;go_wp2_with fail;refine cl.mono ?_;rintro e _ ⟨rfl,rfl⟩;clear cl;go_wp2;refine bodyPost_ret (results_tmp3 rfl _ _ _) rfl ?_;exact hR.out _ _ ⟨rfl,h9.out⟩
theorem aJg (w:World) (T3:Three l i j k) (hf:Fam w0 w (QL l i j k q r b m t)) (hg:t.Good m) (hm:m.Ok) (hp:t.ph≠0) (h3:(t.settle m).ph≠3) (hl:¬ (t.settle m).ents.length<=(t.settle m).nx):Calls prog 69 #[.pointer (some ⟨b,0,none⟩),.pointer (some ⟨r,0,none⟩)] w (fun e w'=>e=.returned (.tuple #[.int .i64 (t.step m).1,.int .i64 (t.step m).2.1,.int .i64 (t.step m).2.2.1])/\Fam w0 w' (QL l i j k q r b (t.step m).2.2.2.2 (t.step m).2.2.2.1)):=by
 refine aF fun R hR=>?_;obtain ⟨ev,qv,wv,nx,wl,ht⟩:=QL.tr T3 hf;obtain ⟨z0,z1,z2,z3,z4,zf⟩:=ht.cells;have cs:=iC w T3 hf hg (by omega);have y6:((t.ph:Int) == 0)=false:=by rw [beq_eq_false_iff_ne];omega
 have HM:=aA hm;have y0:=hg.settle (m:=m) hm.hf.ok;have y2:=Tb.cO (m:=m) (t:=t) (by omega) hg.p4;unfold Tb.step at hR;rw [if_neg hp] at hR;simp only at hR;clear hf hg hm ht z0 z1 z3 z4 zf hp;generalize t.settle m=s at*;have h0:=aA y0;have h2:=aA y2;clear y0 y2;rw [if_neg h3,if_neg hl] at hR;have H3:=aA h3;have HL:=aA hl;clear h3 hl;generalize t.ph=ph at*;go_in;go_wp2_with fail;refine cs.mono ?_;rintro e w1 ⟨rfl,hf⟩;clear cs y6 z2;obtain ⟨ev,qv,wv,nx,wl,ht⟩:=QL.tr T3 hf;obtain ⟨z0,z1,z2,z3,z4,zf⟩:=ht.cells;have x1:((s.ph:Int) == 3)=false:=by rw [beq_eq_false_iff_ne];have:=H3.out;omega
 have y1:=Tb.aJB h0.out h2.out H3.out ht.now;have cl:=kW w1 ht h0.out.b.le (if s.ph<3 then s.ph else 3) nx;rw [y1] at cl;have h7:s.nx<s.ents.length:=by have:=HL.out;omega
 rw [if_pos h7,decide_eq_true h7] at cl;have x6:Hid (Calls prog 153 #[.pointer (some ⟨b,0,none⟩),.pointer (some ⟨r,0,none⟩),.int .i64 (s.nx:Int)] w1 (fun e w'=>e=.returned (.tuple #[])/\Fam w0 w' (QL l i j k q r b (s.clear m s.nx).2 (s.clear m s.nx).1))):=aEp w1 T3 hf h0.out h2.out h7 H3.out HM.out;have x7:=aA (Tb.Good.clear h0.out h2.out h7 H3.out HM.out);have x8:Hid ((s.clear m s.nx).1.ph=s.ph):=(Tb.clear_facts h0.out h2.out h7 H3.out HM.out.hf.ok).2.2.2.1;have x9:=aA h2.out.p1;have y7:s.nx<20:=by have:=h0.out.b.le;omega
 obtain ⟨sp,x5⟩:∃ z,z=s.ph:=⟨_,rfl⟩;have x4:=aA x5;rw [<-x5] at z2 x1 cl;have y5:sp=1\/sp=2\/sp=4:=by
  have h1:=h2.out.p1;have h4:=h0.out.p4;have:=H3.out;omega
 clear hf ht zf z0 z1 z4 y1 h7 x5 h0 h2 H3 HL HM;generalize s.nx=sx at*;have x3:∀ w5,Fam w0 w5 (QL l i j k q r b (s.clear m sx).2 (s.clear m sx).1)->(∃ x2,w5.cell? ⟨b,3,none⟩=some (.int .i64 ((x2:Nat):Int)))/\w5.frozen? ⟨b,3,none⟩=false/\Calls prog 76 #[.pointer (some ⟨b,0,none⟩),.pointer (some ⟨r,0,none⟩)] (w5.setCell ⟨b,3,none⟩ (.int .i64 ((sx:Int)+1))) (fun e w'=>e=.returned (.tuple #[])/\Fam w0 w' (QL l i j k q r b (s.clear m sx).2 (((s.clear m sx).1.at s.ph (sx+1)).settle (s.clear m sx).2))):=fun w5 y=>by
  obtain ⟨_,_,_,_,_,y4⟩:=QL.tr T3 y;have d:=QL.aOj T3 y (sx+1) (sx+1) (aAv.self _);rw [x8.out] at d;have e1:((sx+1:Nat):Int)=(sx:Int)+1:=by omega
  have c:=iC _ T3 d x7.out x9.out;rw [e1] at c;exact ⟨⟨_,y4.cells.2.2.2.1⟩,y4.cells.2.2.2.2.2 3,c⟩
 have iE:=aA x3;clear x3 x7 x8 x9;have h5:=x6.out;clear x6;rcases y5 with rfl|rfl|rfl
 ·as_aux_lemma=>
  replace z2:w1.cell? ⟨b,2,none⟩=some (.int .i64 1):=z2;replace cl:Calls prog 152 #[.pointer (some ⟨b,0,none⟩),.int .i64 1,.int .i64 (nx:Int)] w1 _:=cl;clear x1;go_wp2_with fail;refine cl.mono ?_;rintro e _ ⟨rfl,rfl⟩;clear cl z2 z3;go_wp2_with fail;refine h5.mono ?_;rintro e w5 ⟨rfl,y⟩;obtain ⟨⟨x2,y3⟩,h9,cs⟩:=iE.out w5 y;clear h5 y iE;go_wp2_with fail;refine cs.mono ?_;rintro e w6 ⟨rfl,d⟩;have h8:=aA d;clear cs d y3 h9;go_wp2;refine bodyPost_ret (results_tmp3 rfl _ _ _) rfl ?_;have hs:=x4.out;rw [<-hs] at hR;have h6:=h8.out;rw [<-hs] at h6;exact hR.out _ _ ⟨rfl,h6⟩
 ·as_aux_lemma=>
  replace z2:w1.cell? ⟨b,2,none⟩=some (.int .i64 2):=z2;replace cl:Calls prog 152 #[.pointer (some ⟨b,0,none⟩),.int .i64 2,.int .i64 (nx:Int)] w1 _:=cl;clear x1;go_wp2_with fail;refine cl.mono ?_;rintro e _ ⟨rfl,rfl⟩;clear cl z2 z3;go_wp2_with fail;refine h5.mono ?_;rintro e w5 ⟨rfl,y⟩;obtain ⟨⟨x2,y3⟩,h9,cs⟩:=iE.out w5 y;clear h5 y iE;go_wp2_with fail;refine cs.mono ?_;rintro e w6 ⟨rfl,d⟩;have h8:=aA d;clear cs d y3 h9;go_wp2;refine bodyPost_ret (results_tmp3 rfl _ _ _) rfl ?_;have hs:=x4.out;rw [<-hs] at hR;have h6:=h8.out;rw [<-hs] at h6;exact hR.out _ _ ⟨rfl,h6⟩
 ·as_aux_lemma=>
  replace z2:w1.cell? ⟨b,2,none⟩=some (.int .i64 4):=z2;replace cl:Calls prog 152 #[.pointer (some ⟨b,0,none⟩),.int .i64 3,.int .i64 (nx:Int)] w1 _:=cl;clear x1;go_wp2_with fail;refine cl.mono ?_;rintro e _ ⟨rfl,rfl⟩;clear cl z2 z3;go_wp2_with fail;refine h5.mono ?_;rintro e w5 ⟨rfl,y⟩;obtain ⟨⟨x2,y3⟩,h9,cs⟩:=iE.out w5 y;clear h5 y iE;go_wp2_with fail;refine cs.mono ?_;rintro e w6 ⟨rfl,d⟩;have h8:=aA d;clear cs d y3 h9;go_wp2;refine bodyPost_ret (results_tmp3 rfl _ _ _) rfl ?_;have hs:=x4.out;rw [<-hs] at hR;have h6:=h8.out;rw [<-hs] at h6;exact hR.out _ _ ⟨rfl,h6⟩
theorem aGC (w:World) (y:Three l i j k) (z:Fam w0 w (QL l i j k q r b m t)) (d:t.Good m) (hm:m.Ok):Calls prog 69 #[.pointer (some ⟨b,0,none⟩),.pointer (some ⟨r,0,none⟩)] w (fun e w'=>e=.returned (.tuple #[.int .i64 (t.step m).1,.int .i64 (t.step m).2.1,.int .i64 (t.step m).2.2.1])/\Fam w0 w' (QL l i j k q r b (t.step m).2.2.2.2 (t.step m).2.2.2.1)):=by
 by_cases hp:t.ph=0
 ·exact aLU w y z d hm hp
 by_cases h3:(t.settle m).ph=3
 ·exact aLT w y z d hm hp h3
 by_cases hl:(t.settle m).ents.length<=(t.settle m).nx
 ·exact aEn w y z d hm hp h3 hl
 exact aJg w y z d hm hp h3 hl
end
section
variable {w0 w w':World} {l:List Asn} {b:Nat} {c:Co} {x:GX5} {i:Nat} {m:Mk} {t:Tb}
theorem GoA.open (h:Fam w0 w l) (y:l[i]?=some (GoA b c)):∃ x:GX5,x.ok c/\Fam w0 w (G5 b c x ++ l.set i NoA):=h.aPV y
theorem GoA.close (hx:x.ok c) (h:Fam w0 w (G5 b c x ++ l.set i NoA)) (y:i<l.length):Fam w0 w (l.set i (GoA b c)):=by
 have:=h.aKQ (P:=fun x=>GX5.ok x c) (F:=G5 b c) x hx rfl (aKv y);rwa [aIZ] at this
theorem GoA.born (hx:x.ok c) (h:Fam w0 w (G5 b c x ++ l)):Fam w0 w (l ++ [GoA b c]):=h.aNK (P:=fun x=>GX5.ok x c) (F:=G5 b c) x hx rfl
theorem G5.t2:gX (G5 b c x ++ l) 0 1:=⟨by simp [G5],by simp [G5],by decide⟩
theorem G5.t3:Three (G5 b c x ++ l) 0 1 2:=⟨G5.t2,by simp [G5],by decide,by decide⟩
theorem G5.rl (y:x.on=true):RL (G5 b c x ++ l) 0 1 x.q x.r m=G5 b (c.pI m) x ++ l:=by
 obtain ⟨q,r,e,sv,d,z⟩:=x
 cases y
 rfl
theorem G5.ql (y:x.on=true):QL (G5 b c x ++ l) 0 1 2 x.q x.r x.ub m t=G5 b ((c.pI m).dZ t) x ++ l:=by
 obtain ⟨q,r,e,sv,d,z⟩:=x
 cases y
 rfl
theorem G5.toR (y:x.on=true) (h:Fam w0 w (G5 b c x ++ l)):Fam w0 w (RL (G5 b c x ++ l) 0 1 x.q x.r c.m):=by rw [G5.rl y];exact h
theorem G5.toQ (y:x.on=true) (h:Fam w0 w (G5 b c x ++ l)):Fam w0 w (QL (G5 b c x ++ l) 0 1 2 x.q x.r x.ub c.m c.t):=by rw [G5.ql y];exact h
theorem G5.row (h:Fam w0 w (G5 b c x ++ l)):Row w b 99 (bF b c x):=h.row 4 rfl
theorem G5.gh (h:Fam w0 w (G5 b c x ++ l)):c.m.M.Ok/\∃ L X,bH w L x.q c.m.M X:=h.gh 0 rfl
theorem G5.sw (h:Fam w0 w (G5 b c x ++ l)):aK w 0 x.sv c.sw:=h.ints 3 rfl
theorem G5.tr (h:Fam w0 w (G5 b c x ++ l)):∃ y z d nx wl,kU w x.ub y z d nx wl c.t:=by
 obtain ⟨S,⟨y,z,d,nx,wl,e,_⟩,_⟩:=h.get 2 rfl;exact ⟨y,z,d,nx,wl,e⟩
theorem bF.cells (h:Fam w0 w (G5 b c x ++ l)):w.cell? ⟨b,0,none⟩=some (.pointer (some ⟨x.q,0,none⟩))/\w.cell? ⟨b,1,none⟩=some (.pointer (some ⟨x.ub,0,none⟩))/\w.cell? ⟨b,2,none⟩=some (.pointer (if x.on then some ⟨x.r,0,none⟩ else none))/\w.cell? ⟨b,3,none⟩=some (.int .i64 (c.ph:Int))/\w.cell? ⟨b,4,none⟩=some (.int .i64 c.cr)/\w.cell? ⟨b,5,none⟩=some (.int .i64 c.rate)/\w.cell? ⟨b,6,none⟩=some (.int .i64 (c.pages:Int))/\w.cell? ⟨b,7,none⟩=some (.int .i64 (x.mv:Int))/\w.cell? ⟨b,8,none⟩=some x.sv/\∀ k,w.frozen? ⟨b,k,none⟩=false:=by
 have r:=G5.row h;exact ⟨r.cell 0 rfl,r.cell 1 rfl,r.cell 2 rfl,r.cell 3 rfl,r.cell 4 rfl,r.cell 5 rfl,r.cell 6 rfl,r.cell 7 rfl,r.cell 8 rfl,fun k=>r.free k⟩
theorem G5.m2 (y:x.on=true) (h:Fam w0 w (G5 b c x ++ l)):w.cell? ⟨b,2,none⟩=some (.pointer (some ⟨x.r,0,none⟩)):=by
 have:=(bF.cells h).2.2.1;rw [y] at this;exact this
theorem G5.sZ (y:Fam w0 w (G5 b c x ++ l)) (n:Nat):Fam w0 (w.setCell ⟨b,3,none⟩ (.int .i64 (n:Int))) (G5 b { c with ph:=n } x ++ l):=y.bV 4 rfl 3 _
theorem G5.aEl (y:Fam w0 w (G5 b c x ++ l)) (n:Int):Fam w0 (w.setCell ⟨b,4,none⟩ (.int .i64 n)) (G5 b { c with cr:=n } x ++ l):=y.bV 4 rfl 4 _
theorem G5.aLR (y:Fam w0 w (G5 b c x ++ l)) (n:Nat):Fam w0 (w.setCell ⟨b,7,none⟩ (.int .i64 (n:Int))) (G5 b c { x with mv:=n } ++ l):=y.bV 4 rfl 7 _
theorem G5.aGz {d:World} (hf:Fam w0 w (G5 b c x ++ l)) (ho:Only [] w d) {v:Value} {s:List Int} (hi:aK d w.heap.size v s):Fam w0 (d.setCell ⟨b,8,none⟩ v) (G5 b { c with sw:=s } { x with sv:=v } ++ l):=by
 have h1:Fam w0 d ((G5 b c x ++ l) ++ [dG v s]):=hf.iK ho hi;have h2:=h1.bV 4 rfl 8 v;have h0:(G5 b c x ++ l).length=5+l.length:=by rw [List.length_append];rfl
 refine h2.selC (fun k=>if k=3 then 5+l.length else k) (fun k A hk=>?_) (fun j k hj hk hne=>?_)
 ·by_cases e:k=3
  ·rw [if_pos e];subst e;have z:A=dG v s:=by
    have h3:(G5 b { c with sw:=s } { x with sv:=v } ++ l)[3]?=some (dG v s):=rfl;rw [h3] at hk;exact (Option.some.inj hk).symm
   rw [z,List.getElem?_set_ne (by omega),List.getElem?_append_right (by omega),show 5+l.length - (G5 b c x ++ l).length=0 by omega];rfl
  rw [if_neg e];have h4:=(List.getElem?_eq_some_iff.1 hk).1;have y:(G5 b { c with sw:=s } { x with sv:=v } ++ l).length=5+l.length:=by rw [List.length_append];rfl
  by_cases e4:k=4
  ·subst e4;have h3:(G5 b { c with sw:=s } { x with sv:=v } ++ l)[4]?=some (eG b 99 (bF b { c with sw:=s } { x with sv:=v })):=rfl;rw [h3] at hk;rw [<-Option.some.inj hk];rw [List.getElem?_set_self (by rw [List.length_append,h0];omega)];rfl
  rw [List.getElem?_set_ne (fun e=>e4 e.symm),List.getElem?_append_left (by omega)];rw [<-hk]
  match k,e,e4 with
  | 0,_,_=>rfl
  | 1,_,_=>rfl
  | 2,_,_=>rfl
  | k+5,_,_=>rfl
 have y:(G5 b { c with sw:=s } { x with sv:=v } ++ l).length=5+l.length:=by rw [List.length_append];rfl
 rw [y] at hj hk
 by_cases e:j=3
 ·rw [if_pos e]
  by_cases z:k=3
  ·omega
  rw [if_neg z];omega
 rw [if_neg e]
 by_cases z:k=3
 ·rw [if_pos z];omega
 rw [if_neg z];exact hne
def pG (w0:World) (l:List Asn) (b:Nat) (r:Int×Co) (e:Ending) (w':World):Prop:=e=.returned (.int .i64 r.1)/\∃ y:GX5,y.ok r.2/\Fam w0 w' (G5 b r.2 y ++ l)
theorem aBI (w:World) (y:Fam w0 w (G5 b c x ++ l)) (h:Int):Calls prog 222 #[.pointer (some ⟨b,0,none⟩),.int .i64 h] w (fun e w'=>e=.returned (.int .i64 (c.m.M.len h))/\Only [] w w'):=by
 refine aF fun R d=>?_;obtain ⟨x0,_⟩:=bF.cells y;obtain ⟨hk,L,X,hp⟩:=G5.gh y;have z:=aDl w hp hk h;unfold Hp.len at d;clear y hk hp;go_in;go_wp2_with fail;refine z.mono ?_;rintro e w1 ⟨rfl,ho⟩;have HO:=aA ho;clear z ho;go_wp2;exact d.out _ _ ⟨rfl,HO.out⟩
theorem aDu (w:World) (z:Fam w0 w (G5 b c x ++ l)) (hx:x.ok c) (h:c.Okc) (d:c.ph=1\/c.ph=2):Calls prog 177 #[.pointer (some ⟨b,0,none⟩)] w (pG w0 l b c.mark):=by
 refine aF fun R hR=>?_;have y:x.on=true:=hx.on.trans (bQ.2 d);have x2:=G5.m2 y z;have cs:=aDm w (G5.t2 (b:=b) (c:=c) (x:=x) (l:=l)) (G5.toR y z) (h.mo d);rw [G5.rl y] at cs;have HX:=aA hx;have h0:=fF (by have:=(h.mo d).hf.ok;rw [<-Mk.mY (m:=c.m)] at this;exact this:c.m.step.2.2.M.Ok) c.m.step.1;have HR:Hid (∀ w',Fam w0 w' (G5 b (c.pI c.m.step.2.2) x ++ l)->R (.returned (.int .i64 (1+c.m.step.2.2.M.len c.m.step.1))) w'):=fun w' h=>hR.out _ _ ⟨by show _=Ending.returned (.int .i64 (1+c.m.M.len c.m.step.1));rw [<-Mk.mY (m:=c.m)],x,⟨hx.on,hx.mv,hx.m0,hx.mv2⟩,h⟩;clear hR z hx h d y;go_in;go_wp2_with fail;refine cs.mono ?_;rintro e w2 ⟨rfl,z⟩;have F2:=aA z;have cl:=aBI w2 F2.out c.m.step.1;replace cl:Calls prog 222 #[.pointer (some ⟨b,0,none⟩),.int .i64 c.m.step.1] w2 (fun e w'=>e=.returned (.int .i64 (c.m.step.2.2.M.len c.m.step.1))/\Only [] w2 w'):=cl;clear cs z x2;generalize c.m.step.2.2.M.len c.m.step.1=n at*;go_wp2_with fail;refine cl.mono ?_;rintro e w3 ⟨rfl,ho⟩;have F3:=aA (F2.out.aN ho);clear cl F2 ho;go_wp2_with fail;exact HR.out _ F3.out
def Co.gone (c:Co) (h:Int):Bool:=!(c.m.M.ob h).isSome || c.hid h
theorem rW (w:World) (hf:Fam w0 w (G5 b c x ++ l)) (hx:x.ok c) (h:c.Okc) (y:Int):Calls prog 175 #[.pointer (some ⟨b,0,none⟩),.int .i64 y] w (fun e w'=>e=.returned (.bool (c.gone y))/\Only [] w w'):=by
 refine aF fun R d=>?_;obtain ⟨x0,_,_,x3,_⟩:=bF.cells hf;obtain ⟨hk,L,X,hp⟩:=G5.gh hf;have cl:=jP w hp hk y;unfold Co.gone at d
 cases hu:(c.m.M.ob y).isSome with
 | false=>
  rw [hu] at cl d;replace d:Hid (∀ e w',e=.returned (.bool true)/\Only [] w w'->R e w'):=d;clear hf hx h hk hp hu;go_in;go_wp2_with fail;refine cl.mono ?_;rintro e w1 ⟨rfl,ho⟩;have HO:=aA ho;clear cl ho;go_wp2;exact d.out _ _ ⟨rfl,HO.out⟩
 | true=>
  rw [hu] at cl d;replace d:Hid (∀ e w',e=.returned (.bool (c.hid y))/\Only [] w w'->R e w'):=d;have hy:=hk.inR hu;unfold Co.hid at d
  by_cases h0:c.ph=2
  ·rw [if_pos h0] at d;have hw:c.m.isW y=decide (c.m.col y=0):=by unfold Mk.isW;rw [hu];rfl
   rw [hw] at d;have h7:x.on=true:=hx.on.trans (bQ.2 (.inr h0));have HF:=aA hf;have x1:=aA ((h.mo (.inr h0)).rg y);have h5:=aA h7;rw [h0] at x3;clear hx h hk hp hu hw h7 h0 hf;go_in;go_wp2_with fail;refine cl.mono ?_;rintro e w1 ⟨rfl,ho⟩;have h1:=HF.out.aN ho;have z2:=G5.m2 h5.out h1;have z3:=(bF.cells h1).2.2.2.1;have y3:=ho.cell x3 (by simp);obtain ⟨tg,tc,v,T,hg⟩:=RL.mk (G5.t2 (b:=b) (c:=c) (x:=x) (l:=l)) (G5.toR h5.out h1);obtain ⟨U,h4⟩:=hg.row;have k1:=h4.cell 1 rfl;obtain ⟨k,rfl⟩:∃ k:Nat,y=(k:Int):=⟨y.toNat,by omega⟩;have y1:(k:Int)<193:=by omega
   have x6:(0:Int)<=(k:Int):=by omega
   obtain ⟨tb,tq,y0,kt⟩:=hg.tint.read.at (k:=k) (by rw [hg.tl];omega)
   cases y0
   rw [Nat.zero_add,hg.tv k (by omega)] at kt;have HO:=aA ho;clear cl ho h1 hg h4 HF x0 x3 z3;generalize c.m.col (k:Int)=kc at*;have x4:=x1.out;rcases x4 with e0|e0|e0
   all_goals
    rw [e0] at kt d;go_wp2;exact d.out _ _ ⟨rfl,HO.out⟩
  rw [if_neg h0] at d;have hs:=G5.sw hf;have x9:=h.vK;obtain ⟨sa,sc,hv⟩:=hs.len;have x8:=(bF.cells hf).2.2.2.2.2.2.2.2.1;rw [hv] at x8 hs;obtain ⟨n,hn⟩:∃ n,n=c.sw.length:=⟨_,rfl⟩;have HN:=aA hn;rw [<-hn] at x8 hs x9;have HS:=aA hs;have y5:((c.ph:Int) == 2)=false:=by rw [beq_eq_false_iff_ne];omega
  generalize c.ph=ph at*;clear hf hx h hk hp hu hv hs hn h0;go_in;go_wp2_with fail;refine cl.mono ?_;rintro e w1 ⟨rfl,ho⟩;have y3:=ho.cell x3 (by simp);have y8:=ho.cell x8 (by simp);have x2:Hid (aK w1 0 (.slice sa n sc) c.sw):=HS.out.only ho (by simp);have HO:=aA ho;clear cl ho x0 x3 x8;go_wp2;go_loopw [5] (fun iv wr=>∃ k:Nat,k<=n/\iv=.int .i64 k/\wr=w1/\Hid (∀ j,j<k->gI c.sw j≠y)) (fun iv _=>n - (intOf iv).toNat)
  case atStart=>exact ⟨0,by omega,rfl,rfl,fun j hj=>by omega⟩
  case round=>as_aux_lemma=>
   obtain ⟨k,y4,rfl,rfl,HB⟩:=hrel
   by_cases x7:k<n
   ·have h8:(k:Int)<(n:Int):=by omega
    have x6:(0:Int)<=(k:Int):=by omega
    have h2:k<c.sw.length:=by rw [<-HN.out];exact x7
    obtain ⟨vb,vo,rfl,x5⟩:=x2.out.read.at h2
    by_cases he:gI c.sw k=y
    ·have h6:decide (y∈c.sw)=true:=decide_eq_true (kR.2 ⟨k,h2,he⟩);rw [h6] at d;rw [he] at x5;clear he h6 h2;go_wp2;exact d.out _ _ ⟨rfl,HO.out⟩
    have y2:(gI c.sw k == y)=false:=by simpa using he
    have h9:Hid (∀ j,j<k+1->gI c.sw j≠y):=fun j hj=>by
     by_cases e:j=k
     ·rw [e];exact he
     exact HB.out j (by omega)
    clear he h2;generalize gI c.sw k=z at*;go_wp2;exact ⟨⟨k+1,by omega,by go_num,by trivial,h9⟩,by simp [intOf];omega⟩
   obtain rfl:k=n:=by omega
   have h8:¬ (k:Int)<(k:Int):=by omega
   have h3:decide (y∈c.sw)=false:=decide_eq_false (fun e=>by
    obtain ⟨j,hj,e2⟩:=kR.1 e;exact HB.out j (by rw [HN.out];exact hj) e2)
   rw [h3] at d;clear h3;go_wp2;exact d.out _ _ ⟨rfl,HO.out⟩
end
end Go.Proofs.YthflghdaejbdkaaGreat
