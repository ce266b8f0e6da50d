/- Lemmas of this claim. -/
import Derived.Test.YthflghdaejbdkaaGreatXdTbGD
import Derived.Test.YthflghdaejbdkaaGreatXdCyOwn
import Derived.Test.YthflghdaejbdkaaGreatXdTbG
namespace Go.Proofs.YthflghdaejbdkaaGreat
open _root_.Go.Proofs.Tryz (prog)
open Go.RowKit Go.Maps
set_option maxHeartbeats 6400000
set_option maxRecDepth 100000
set_option linter.unusedVariables false
section
variable {l:List Asn} {i j k q r b:Nat} {m:Mk} {t s:Tb} {w0 w w':World} {ev qv wv:Value} {nx:Nat} {wl:List Bool}
theorem aDy (w:World) (T3:Three l i j k) (hf:Fam w0 w (QL l i j k q r b m s)) (hg:s.Good m) (hs:s.Stl m) (hi:s.nx<s.ents.length) (h3:s.ph≠3) (hm:m.Ok):Calls prog 153 #[.pointer (some ⟨b,0,none⟩),.pointer (some ⟨r,0,none⟩),.int .i64 (s.nx:Int)] w (fun e w'=>e=.returned (.tuple #[])/\Fam w0 w' (QL l i j k q r b (s.clear m s.nx).2 (s.clear m s.nx).1)):=by
 have h1:=hs.p1;have h4:=hg.p4
 by_cases hp:s.ph=2
 ·have ha:=(hs.a (.inr hp)).2;rw [hp] at ha;exact aIb w T3 hf s.nx hi ha hp (fun hd=>hg.fd hp _ (Nat.le_refl _) hi hd) hm hg.b.q20
 refine aIa w T3 hf s.nx hi ?_ hp hm.hf.ok
 by_cases h5:s.ph=1
 ·have ha:=(hs.a (.inl h5)).2;rw [h5] at ha;rw [ha];decide
 rw [hs.d (by omega) hi];decide
theorem Tb.aIo (hg:s.Good m) (hs:s.Stl m) (h3:s.ph≠3) (hn:zQ s nx):nxt s.ents ((if s.ph<3 then s.ph else 3:Nat):Int) nx=s.nx:=by
 have h1:=hs.p1;have h4:=hg.p4;have:s.ph=1\/s.ph=2\/s.ph=4:=by omega
 rcases this with e|e|e
 ·have ha:=hs.a (.inl e);rw [e] at ha ⊢;exact (hn.1 e).trans (qJ ha.1 ha.2)
 ·have ha:=hs.a (.inr e);rw [e] at ha ⊢;exact (hn.2.1 e).trans (qJ ha.1 ha.2)
 rw [e];refine (hn.2.2 e).trans ?_
 by_cases hi:s.nx<s.ents.length
 ·exact qJ hi (hs.d e hi)
 rw [aDH (by omega)];have:=hg.nl;omega
theorem aKC (w:World) (T3:Three l i j k) (hf:Fam w0 w (QL l i j k q r b m t)) (hg:t.Good m) (hm:m.Ok) (hp:t.ph=0):Calls prog 69 #[.pointer (some ⟨b,0,none⟩),.pointer (some ⟨r,0,none⟩)] w (fun e w'=>e=.returned (.tuple #[.int .i64 (t.step m).1,.int .i64 (t.step m).2.1,.int .i64 (t.step m).2.2.1])/\Fam w0 w' (QL l i j k q r b (t.step m).2.2.2.2 (t.step m).2.2.2.1)):=by
 refine aF fun R hR=>?_;obtain ⟨ev,qv,wv,nx,wl,ht⟩:=QL.tr T3 hf;obtain ⟨z0,z1,z2,z3,z4,zf⟩:=ht.cells;have HF:=aA hf;unfold Tb.step at hR;rw [if_pos hp] at hR;rw [hp] at z2;replace z2:w.cell? ⟨b,2,none⟩=some (.int .i64 0):=z2;clear hf hg hm ht z0 z1 z3 z4 zf hp;go_in;go_wp2_with fail;refine bodyPost_ret (results_tmp3 rfl _ _ _) rfl ?_;exact hR.out _ _ ⟨rfl,HF.out⟩
theorem aKB (w:World) (T3:Three l i j k) (hf:Fam w0 w (QL l i j k q r b m t)) (hg:t.Good m) (hm:m.Ok) (hp:t.ph≠0) (h3:(t.settle m).ph=3):Calls prog 69 #[.pointer (some ⟨b,0,none⟩),.pointer (some ⟨r,0,none⟩)] w (fun e w'=>e=.returned (.tuple #[.int .i64 (t.step m).1,.int .i64 (t.step m).2.1,.int .i64 (t.step m).2.2.1])/\Fam w0 w' (QL l i j k q r b (t.step m).2.2.2.2 (t.step m).2.2.2.1)):=by
 refine aF fun R hR=>?_;obtain ⟨ev,qv,wv,nx,wl,ht⟩:=QL.tr T3 hf;obtain ⟨z0,z1,z2,z3,z4,zf⟩:=ht.cells;have cs:=gJ w T3 hf hg (by omega);have hp0:((t.ph:Int) == 0)=false:=by rw [beq_eq_false_iff_ne];omega
 have HM:=aA hm;have hgs:=hg.settle (m:=m) hm.hf.ok;have hst:=Tb.cZ (m:=m) (t:=t) (by omega) hg.p4;unfold Tb.step at hR;rw [if_neg hp] at hR;simp only at hR;clear hf hg hm ht z0 z1 z3 z4 zf hp;generalize t.settle m=s at*;have HGS:=aA hgs;have HST:=aA hst;clear hgs hst;rw [if_pos h3] at hR;have H3:=aA h3;clear h3;generalize t.ph=ph at*;go_in;go_wp2_with fail;refine cs.mono ?_;rintro e w1 ⟨rfl,hf⟩;clear cs hp0 z2;obtain ⟨ev,qv,wv,nx,wl,ht⟩:=QL.tr T3 hf;obtain ⟨z0,z1,z2,z3,z4,zf⟩:=ht.cells;rw [H3.out] at z2;replace z2:w1.cell? ⟨b,2,none⟩=some (.int .i64 3):=z2;have cm:=aCz w1 T3.t2 hf HM.out;clear hf ht zf z0 z1 z3 z4;go_wp2_with fail;refine cm.mono ?_;rintro e w3 ⟨rfl,hf⟩;have hM:=Mk.pY (m:=m);have hg3:s.Good m.step.2.2:=HGS.out.marker (fun k hk=>by rw [hM];exact hk);have cs:=gJ w3 T3 hf hg3 (by have:=H3.out;omega);clear hf hM hg3 cm;generalize m.step=rr at*;obtain ⟨r1,r2,r3⟩:=rr;go_wp2_with fail;refine cs.mono ?_;rintro e w4 ⟨rfl,hf⟩;have HF:=aA hf;clear hf cs;go_wp2_with fail;refine bodyPost_ret (results_tmp3 rfl _ _ _) rfl ?_;exact hR.out _ _ ⟨rfl,HF.out⟩
theorem aDw (w:World) (T3:Three l i j k) (hf:Fam w0 w (QL l i j k q r b m t)) (hg:t.Good m) (hm:m.Ok) (hp:t.ph≠0) (h3:(t.settle m).ph≠3) (hl:(t.settle m).ents.length<=(t.settle m).nx):Calls prog 69 #[.pointer (some ⟨b,0,none⟩),.pointer (some ⟨r,0,none⟩)] w (fun e w'=>e=.returned (.tuple #[.int .i64 (t.step m).1,.int .i64 (t.step m).2.1,.int .i64 (t.step m).2.2.1])/\Fam w0 w' (QL l i j k q r b (t.step m).2.2.2.2 (t.step m).2.2.2.1)):=by
 refine aF fun R hR=>?_;obtain ⟨ev,qv,wv,nx,wl,ht⟩:=QL.tr T3 hf;obtain ⟨z0,z1,z2,z3,z4,zf⟩:=ht.cells;have cs:=gJ w T3 hf hg (by omega);have hp0:((t.ph:Int) == 0)=false:=by rw [beq_eq_false_iff_ne];omega
 have HM:=aA hm;have hgs:=hg.settle (m:=m) hm.hf.ok;have hst:=Tb.cZ (m:=m) (t:=t) (by omega) hg.p4;unfold Tb.step at hR;rw [if_neg hp] at hR;simp only at hR;clear hf hg hm ht z0 z1 z3 z4 zf hp;generalize t.settle m=s at*;have HGS:=aA hgs;have HST:=aA hst;clear hgs hst;rw [if_neg h3,if_pos hl] at hR;have H3:=aA h3;have hp4:s.ph=4:=by
  have h1:=HST.out.p1;have h4:=HGS.out.p4
  by_cases e:s.ph=1\/s.ph=2
  ·have:=(HST.out.a e).1;omega
  omega
 have H4:=aA hp4;have HL:=aA hl;clear h3 hl hp4;generalize t.ph=ph at*;go_in;go_wp2_with fail;refine cs.mono ?_;rintro e w1 ⟨rfl,hf⟩;clear cs hp0 z2;obtain ⟨ev,qv,wv,nx,wl,ht⟩:=QL.tr T3 hf;obtain ⟨z0,z1,z2,z3,z4,zf⟩:=ht.cells;have h31:((s.ph:Int) == 3)=false:=by rw [beq_eq_false_iff_ne];have:=H3.out;omega
 have hna:=Tb.aIo HGS.out HST.out H3.out ht.now;have cl:=kQ w1 ht HGS.out.b.le (if s.ph<3 then s.ph else 3) nx;rw [hna] at cl;rw [H4.out] at z2 cl;replace z2:w1.cell? ⟨b,2,none⟩=some (.int .i64 4):=z2;have hlt:¬ s.nx<s.ents.length:=by have:=HL.out;omega
 rw [if_neg hlt,decide_eq_false hlt] at cl;replace cl:Calls prog 152 #[.pointer (some ⟨b,0,none⟩),.int .i64 3,.int .i64 (nx:Int)] w1 _:=cl;have HF2:Hid (Fam w0 (w1.setCell ⟨b,2,none⟩ (.int .i64 0)) (QL l i j k q r b m (s.at 0 0))):=QL.aBJ T3 hf 0 (by omega) 0 (fun _ _ _ _ _ _=>⟨fun e=>by simp [Tb.at] at e,fun e=>by simp [Tb.at] at e,fun e=>by simp [Tb.at] at e⟩);have f2:=zf 2;clear hf ht zf z0 z1 z4 hna hlt h31;go_wp2_with fail;refine cl.mono ?_;rintro e _ ⟨rfl,rfl⟩;clear cl;go_wp2_with fail;refine bodyPost_ret (results_tmp3 rfl _ _ _) rfl ?_;exact hR.out _ _ ⟨rfl,HF2.out⟩
theorem aHY (w:World) (T3:Three l i j k) (hf:Fam w0 w (QL l i j k q r b m t)) (hg:t.Good m) (hm:m.Ok) (hp:t.ph≠0) (h3:(t.settle m).ph≠3) (hl:¬ (t.settle m).ents.length<=(t.settle m).nx):Calls prog 69 #[.pointer (some ⟨b,0,none⟩),.pointer (some ⟨r,0,none⟩)] w (fun e w'=>e=.returned (.tuple #[.int .i64 (t.step m).1,.int .i64 (t.step m).2.1,.int .i64 (t.step m).2.2.1])/\Fam w0 w' (QL l i j k q r b (t.step m).2.2.2.2 (t.step m).2.2.2.1)):=by
 refine aF fun R hR=>?_;obtain ⟨ev,qv,wv,nx,wl,ht⟩:=QL.tr T3 hf;obtain ⟨z0,z1,z2,z3,z4,zf⟩:=ht.cells;have cs:=gJ w T3 hf hg (by omega);have hp0:((t.ph:Int) == 0)=false:=by rw [beq_eq_false_iff_ne];omega
 have HM:=aA hm;have hgs:=hg.settle (m:=m) hm.hf.ok;have hst:=Tb.cZ (m:=m) (t:=t) (by omega) hg.p4;unfold Tb.step at hR;rw [if_neg hp] at hR;simp only at hR;clear hf hg hm ht z0 z1 z3 z4 zf hp;generalize t.settle m=s at*;have HGS:=aA hgs;have HST:=aA hst;clear hgs hst;rw [if_neg h3,if_neg hl] at hR;have H3:=aA h3;have HL:=aA hl;clear h3 hl;generalize t.ph=ph at*;go_in;go_wp2_with fail;refine cs.mono ?_;rintro e w1 ⟨rfl,hf⟩;clear cs hp0 z2;obtain ⟨ev,qv,wv,nx,wl,ht⟩:=QL.tr T3 hf;obtain ⟨z0,z1,z2,z3,z4,zf⟩:=ht.cells;have h31:((s.ph:Int) == 3)=false:=by rw [beq_eq_false_iff_ne];have:=H3.out;omega
 have hna:=Tb.aIo HGS.out HST.out H3.out ht.now;have cl:=kQ w1 ht HGS.out.b.le (if s.ph<3 then s.ph else 3) nx;rw [hna] at cl;have hlt:s.nx<s.ents.length:=by have:=HL.out;omega
 rw [if_pos hlt,decide_eq_true hlt] at cl;have HCC:Hid (Calls prog 153 #[.pointer (some ⟨b,0,none⟩),.pointer (some ⟨r,0,none⟩),.int .i64 (s.nx:Int)] w1 (fun e w'=>e=.returned (.tuple #[])/\Fam w0 w' (QL l i j k q r b (s.clear m s.nx).2 (s.clear m s.nx).1))):=aDy w1 T3 hf HGS.out HST.out hlt H3.out HM.out;have HCG:=aA (Tb.Good.clear HGS.out HST.out hlt H3.out HM.out);have HCP:Hid ((s.clear m s.nx).1.ph=s.ph):=(Tb.clear_facts HGS.out HST.out hlt H3.out HM.out.hf.ok).2.2.2.1;have HP1:=aA HST.out.p1;have h20:s.nx<20:=by have:=HGS.out.b.le;omega
 obtain ⟨sp,hsp⟩:∃ z,z=s.ph:=⟨_,rfl⟩;have HSP:=aA hsp;rw [<-hsp] at z2 h31 cl;have aQe:sp=1\/sp=2\/sp=4:=by
  have h1:=HST.out.p1;have h4:=HGS.out.p4;have:=H3.out;omega
 clear hf ht zf z0 z1 z4 hna hlt hsp HGS HST H3 HL HM;generalize s.nx=sx at*;have hend:∀ w5,Fam w0 w5 (QL l i j k q r b (s.clear m sx).2 (s.clear m sx).1)->(∃ nx5,w5.cell? ⟨b,3,none⟩=some (.int .i64 ((nx5:Nat):Int)))/\w5.frozen? ⟨b,3,none⟩=false/\Calls prog 76 #[.pointer (some ⟨b,0,none⟩),.pointer (some ⟨r,0,none⟩)] (w5.setCell ⟨b,3,none⟩ (.int .i64 ((sx:Int)+1))) (fun e w'=>e=.returned (.tuple #[])/\Fam w0 w' (QL l i j k q r b (s.clear m sx).2 (((s.clear m sx).1.at s.ph (sx+1)).settle (s.clear m sx).2))):=fun w5 hf5=>by
  obtain ⟨_,_,_,_,_,ht5⟩:=QL.tr T3 hf5;have hf6:=QL.aMH T3 hf5 (sx+1) (sx+1) (zQ.self _);rw [HCP.out] at hf6;have e1:((sx+1:Nat):Int)=(sx:Int)+1:=by omega
  have c:=gJ _ T3 hf6 HCG.out HP1.out;rw [e1] at c;exact ⟨⟨_,ht5.cells.2.2.2.1⟩,ht5.cells.2.2.2.2.2 3,c⟩
 have gU:=aA hend;clear hend HCG HCP HP1;have hcc:=HCC.out;clear HCC;rcases aQe with rfl|rfl|rfl
 ·as_aux_lemma=>
  replace z2:w1.cell? ⟨b,2,none⟩=some (.int .i64 1):=z2;replace cl:Calls prog 152 #[.pointer (some ⟨b,0,none⟩),.int .i64 1,.int .i64 (nx:Int)] w1 _:=cl;clear h31;go_wp2_with fail;refine cl.mono ?_;rintro e _ ⟨rfl,rfl⟩;clear cl z2 z3;go_wp2_with fail;refine hcc.mono ?_;rintro e w5 ⟨rfl,hf5⟩;obtain ⟨⟨nx5,y3⟩,yf3,cs⟩:=gU.out w5 hf5;clear hcc hf5 gU;go_wp2_with fail;refine cs.mono ?_;rintro e w6 ⟨rfl,hf6⟩;have HF6:=aA hf6;clear cs hf6 y3 yf3;go_wp2_with fail;refine bodyPost_ret (results_tmp3 rfl _ _ _) rfl ?_;have hs:=HSP.out;rw [<-hs] at hR;have h6:=HF6.out;rw [<-hs] at h6;exact hR.out _ _ ⟨rfl,h6⟩
 ·as_aux_lemma=>
  replace z2:w1.cell? ⟨b,2,none⟩=some (.int .i64 2):=z2;replace cl:Calls prog 152 #[.pointer (some ⟨b,0,none⟩),.int .i64 2,.int .i64 (nx:Int)] w1 _:=cl;clear h31;go_wp2_with fail;refine cl.mono ?_;rintro e _ ⟨rfl,rfl⟩;clear cl z2 z3;go_wp2_with fail;refine hcc.mono ?_;rintro e w5 ⟨rfl,hf5⟩;obtain ⟨⟨nx5,y3⟩,yf3,cs⟩:=gU.out w5 hf5;clear hcc hf5 gU;go_wp2_with fail;refine cs.mono ?_;rintro e w6 ⟨rfl,hf6⟩;have HF6:=aA hf6;clear cs hf6 y3 yf3;go_wp2_with fail;refine bodyPost_ret (results_tmp3 rfl _ _ _) rfl ?_;have hs:=HSP.out;rw [<-hs] at hR;have h6:=HF6.out;rw [<-hs] at h6;exact hR.out _ _ ⟨rfl,h6⟩
 ·as_aux_lemma=>
  replace z2:w1.cell? ⟨b,2,none⟩=some (.int .i64 4):=z2;replace cl:Calls prog 152 #[.pointer (some ⟨b,0,none⟩),.int .i64 3,.int .i64 (nx:Int)] w1 _:=cl;clear h31;go_wp2_with fail;refine cl.mono ?_;rintro e _ ⟨rfl,rfl⟩;clear cl z2 z3;go_wp2_with fail;refine hcc.mono ?_;rintro e w5 ⟨rfl,hf5⟩;obtain ⟨⟨nx5,y3⟩,yf3,cs⟩:=gU.out w5 hf5;clear hcc hf5 gU;go_wp2_with fail;refine cs.mono ?_;rintro e w6 ⟨rfl,hf6⟩;have HF6:=aA hf6;clear cs hf6 y3 yf3;go_wp2_with fail;refine bodyPost_ret (results_tmp3 rfl _ _ _) rfl ?_;have hs:=HSP.out;rw [<-hs] at hR;have h6:=HF6.out;rw [<-hs] at h6;exact hR.out _ _ ⟨rfl,h6⟩
theorem aFE (w:World) (T3:Three l i j k) (hf:Fam w0 w (QL l i j k q r b m t)) (hg:t.Good m) (hm:m.Ok):Calls prog 69 #[.pointer (some ⟨b,0,none⟩),.pointer (some ⟨r,0,none⟩)] w (fun e w'=>e=.returned (.tuple #[.int .i64 (t.step m).1,.int .i64 (t.step m).2.1,.int .i64 (t.step m).2.2.1])/\Fam w0 w' (QL l i j k q r b (t.step m).2.2.2.2 (t.step m).2.2.2.1)):=by
 by_cases hp:t.ph=0
 ·exact aKC w T3 hf hg hm hp
 by_cases h3:(t.settle m).ph=3
 ·exact aKB w T3 hf hg hm hp h3
 by_cases hl:(t.settle m).ents.length<=(t.settle m).nx
 ·exact aDw w T3 hf hg hm hp h3 hl
 exact aHY w T3 hf hg hm hp h3 hl
end
section
variable {w0 w w':World} {l:List Asn} {b:Nat} {c:Co} {x:GX5} {i:Nat} {m:Mk} {t:Tb}
theorem GoA.open (h:Fam w0 w l) (hi:l[i]?=some (GoA b c)):∃ x:GX5,x.ok c/\Fam w0 w (G5 b c x ++ l.set i NoA):=h.aOq hi
theorem GoA.close (hx:x.ok c) (h:Fam w0 w (G5 b c x ++ l.set i NoA)) (hi:i<l.length):Fam w0 w (l.set i (GoA b c)):=by
 have:=h.aJx (P:=fun x=>GX5.ok x c) (F:=G5 b c) x hx rfl (aJf hi);rwa [aHR] at this
theorem GoA.born (hx:x.ok c) (h:Fam w0 w (G5 b c x ++ l)):Fam w0 w (l ++ [GoA b c]):=h.aMo (P:=fun x=>GX5.ok x c) (F:=G5 b c) x hx rfl
theorem G5.t2:fZ (G5 b c x ++ l) 0 1:=⟨by simp [G5],by simp [G5],by decide⟩
theorem G5.t3:Three (G5 b c x ++ l) 0 1 2:=⟨G5.t2,by simp [G5],by decide,by decide⟩
theorem G5.rl (ho:x.on=true):RL (G5 b c x ++ l) 0 1 x.q x.r m=G5 b (c.oH m) x ++ l:=by
 obtain ⟨q,r,ub,sv,on,mv⟩:=x
 cases ho
 rfl
theorem G5.ql (ho:x.on=true):QL (G5 b c x ++ l) 0 1 2 x.q x.r x.ub m t=G5 b ((c.oH m).dX t) x ++ l:=by
 obtain ⟨q,r,ub,sv,on,mv⟩:=x
 cases ho
 rfl
theorem G5.toR (ho:x.on=true) (h:Fam w0 w (G5 b c x ++ l)):Fam w0 w (RL (G5 b c x ++ l) 0 1 x.q x.r c.m):=by rw [G5.rl ho];exact h
theorem G5.toQ (ho:x.on=true) (h:Fam w0 w (G5 b c x ++ l)):Fam w0 w (QL (G5 b c x ++ l) 0 1 2 x.q x.r x.ub c.m c.t):=by rw [G5.ql ho];exact h
theorem G5.row (h:Fam w0 w (G5 b c x ++ l)):Row w b 99 (aY b c x):=h.row 4 rfl
theorem G5.gh (h:Fam w0 w (G5 b c x ++ l)):c.m.M.Ok/\∃ L X,bF w L x.q c.m.M X:=h.gh 0 rfl
theorem G5.sw (h:Fam w0 w (G5 b c x ++ l)):aO w 0 x.sv c.sw:=h.ints 3 rfl
theorem G5.tr (h:Fam w0 w (G5 b c x ++ l)):∃ ev qv wv nx wl,kN w x.ub ev qv wv nx wl c.t:=by
 obtain ⟨S,⟨ev,qv,wv,nx,wl,h1,_⟩,_⟩:=h.get 2 rfl;exact ⟨ev,qv,wv,nx,wl,h1⟩
theorem aY.cells (h:Fam w0 w (G5 b c x ++ l)):w.cell? ⟨b,0,none⟩=some (.pointer (some ⟨x.q,0,none⟩))/\w.cell? ⟨b,1,none⟩=some (.pointer (some ⟨x.ub,0,none⟩))/\w.cell? ⟨b,2,none⟩=some (.pointer (if x.on then some ⟨x.r,0,none⟩ else none))/\w.cell? ⟨b,3,none⟩=some (.int .i64 (c.ph:Int))/\w.cell? ⟨b,4,none⟩=some (.int .i64 c.cr)/\w.cell? ⟨b,5,none⟩=some (.int .i64 c.rate)/\w.cell? ⟨b,6,none⟩=some (.int .i64 (c.pages:Int))/\w.cell? ⟨b,7,none⟩=some (.int .i64 (x.mv:Int))/\w.cell? ⟨b,8,none⟩=some x.sv/\∀ k,w.frozen? ⟨b,k,none⟩=false:=by
 have r:=G5.row h;exact ⟨r.cell 0 rfl,r.cell 1 rfl,r.cell 2 rfl,r.cell 3 rfl,r.cell 4 rfl,r.cell 5 rfl,r.cell 6 rfl,r.cell 7 rfl,r.cell 8 rfl,fun k=>r.free k⟩
theorem G5.m2 (ho:x.on=true) (h:Fam w0 w (G5 b c x ++ l)):w.cell? ⟨b,2,none⟩=some (.pointer (some ⟨x.r,0,none⟩)):=by
 have:=(aY.cells h).2.2.1;rw [ho] at this;exact this
theorem G5.rX (hf:Fam w0 w (G5 b c x ++ l)) (n:Nat):Fam w0 (w.setCell ⟨b,3,none⟩ (.int .i64 (n:Int))) (G5 b { c with ph:=n } x ++ l):=hf.bQ 4 rfl 3 _
theorem G5.aDu (hf:Fam w0 w (G5 b c x ++ l)) (n:Int):Fam w0 (w.setCell ⟨b,4,none⟩ (.int .i64 n)) (G5 b { c with cr:=n } x ++ l):=hf.bQ 4 rfl 4 _
theorem G5.aKz (hf:Fam w0 w (G5 b c x ++ l)) (n:Nat):Fam w0 (w.setCell ⟨b,7,none⟩ (.int .i64 (n:Int))) (G5 b c { x with mv:=n } ++ l):=hf.bQ 4 rfl 7 _
theorem G5.aFB {w1:World} (hf:Fam w0 w (G5 b c x ++ l)) (ho:Only [] w w1) {v:Value} {s:List Int} (hi:aO w1 w.heap.size v s):Fam w0 (w1.setCell ⟨b,8,none⟩ v) (G5 b { c with sw:=s } { x with sv:=v } ++ l):=by
 have h1:Fam w0 w1 ((G5 b c x ++ l) ++ [dQ v s]):=hf.jG ho hi;have h2:=h1.bQ 4 rfl 8 v;have hl5:(G5 b c x ++ l).length=5+l.length:=by rw [List.length_append];rfl
 refine h2.selC (fun k=>if k=3 then 5+l.length else k) (fun k A hk=>?_) (fun j k hj hk hne=>?_)
 ·by_cases e:k=3
  ·rw [if_pos e];subst e;have e2:A=dQ v s:=by
    have h3:(G5 b { c with sw:=s } { x with sv:=v } ++ l)[3]?=some (dQ v s):=rfl;rw [h3] at hk;exact (Option.some.inj hk).symm
   rw [e2,List.getElem?_set_ne (by omega),List.getElem?_append_right (by omega),show 5+l.length - (G5 b c x ++ l).length=0 by omega];rfl
  rw [if_neg e];have hlt:=(List.getElem?_eq_some_iff.1 hk).1;have hlen:(G5 b { c with sw:=s } { x with sv:=v } ++ l).length=5+l.length:=by rw [List.length_append];rfl
  by_cases e4:k=4
  ·subst e4;have h3:(G5 b { c with sw:=s } { x with sv:=v } ++ l)[4]?=some (dZ b 99 (aY b { c with sw:=s } { x with sv:=v })):=rfl;rw [h3] at hk;rw [<-Option.some.inj hk];rw [List.getElem?_set_self (by rw [List.length_append,hl5];omega)];rfl
  rw [List.getElem?_set_ne (fun e=>e4 e.symm),List.getElem?_append_left (by omega)];rw [<-hk]
  match k,e,e4 with
  | 0,_,_=>rfl
  | 1,_,_=>rfl
  | 2,_,_=>rfl
  | k+5,_,_=>rfl
 have hlen:(G5 b { c with sw:=s } { x with sv:=v } ++ l).length=5+l.length:=by rw [List.length_append];rfl
 rw [hlen] at hj hk
 by_cases e:j=3
 ·rw [if_pos e]
  by_cases e2:k=3
  ·omega
  rw [if_neg e2];omega
 rw [if_neg e]
 by_cases e2:k=3
 ·rw [if_pos e2];omega
 rw [if_neg e2];exact hne
def oG (w0:World) (l:List Asn) (b:Nat) (r:Int×Co) (e:Ending) (w':World):Prop:=e=.returned (.int .i64 r.1)/\∃ x':GX5,x'.ok r.2/\Fam w0 w' (G5 b r.2 x' ++ l)
theorem aAW (w:World) (hf:Fam w0 w (G5 b c x ++ l)) (h:Int):Calls prog 222 #[.pointer (some ⟨b,0,none⟩),.int .i64 h] w (fun e w'=>e=.returned (.int .i64 (c.m.M.len h))/\Only [] w w'):=by
 refine aF fun R hR=>?_;obtain ⟨x0,_⟩:=aY.cells hf;obtain ⟨hk,L,X,hp⟩:=G5.gh hf;have ct:=xX w hp hk h;unfold Hp.len at hR;clear hf hk hp;go_in;go_wp2_with fail;refine ct.mono ?_;rintro e w1 ⟨rfl,ho⟩;have HO:=aA ho;clear ct ho;go_wp2_with fail;exact hR.out _ _ ⟨rfl,HO.out⟩
theorem aCH (w:World) (hf:Fam w0 w (G5 b c x ++ l)) (hx:x.ok c) (h:c.Okc) (hp:c.ph=1\/c.ph=2):Calls prog 177 #[.pointer (some ⟨b,0,none⟩)] w (oG w0 l b c.mark):=by
 refine aF fun R hR=>?_;have hon:x.on=true:=hx.on.trans (dD.2 hp);have x2:=G5.m2 hon hf;have cs:=aCz w (G5.t2 (b:=b) (c:=c) (x:=x) (l:=l)) (G5.toR hon hf) (h.mo hp);rw [G5.rl hon] at cs;have HX:=aA hx;have hlr:=eX (by have:=(h.mo hp).hf.ok;rw [<-Mk.pY (m:=c.m)] at this;exact this:c.m.step.2.2.M.Ok) c.m.step.1;have HR:Hid (∀ w',Fam w0 w' (G5 b (c.oH c.m.step.2.2) x ++ l)->R (.returned (.int .i64 (1+c.m.step.2.2.M.len c.m.step.1))) w'):=fun w' h=>hR.out _ _ ⟨by show _=Ending.returned (.int .i64 (1+c.m.M.len c.m.step.1));rw [<-Mk.pY (m:=c.m)],x,⟨hx.on,hx.mv,hx.m0,hx.mv2⟩,h⟩;clear hR hf hx h hp hon;go_in;go_wp2_with fail;refine cs.mono ?_;rintro e w2 ⟨rfl,hf⟩;have F2:=aA hf;have cl:=aAW w2 F2.out c.m.step.1;replace cl:Calls prog 222 #[.pointer (some ⟨b,0,none⟩),.int .i64 c.m.step.1] w2 (fun e w'=>e=.returned (.int .i64 (c.m.step.2.2.M.len c.m.step.1))/\Only [] w2 w'):=cl;clear cs hf x2;generalize c.m.step.2.2.M.len c.m.step.1=n at*;go_wp2_with fail;refine cl.mono ?_;rintro e w3 ⟨rfl,ho⟩;have F3:=aA (F2.out.aN ho);clear cl F2 ho;go_wp2_with fail;exact HR.out _ F3.out
def Co.gone (c:Co) (h:Int):Bool:=!(c.m.M.ob h).isSome || c.hid h
theorem qX (w:World) (hf:Fam w0 w (G5 b c x ++ l)) (hx:x.ok c) (h:c.Okc) (y:Int):Calls prog 175 #[.pointer (some ⟨b,0,none⟩),.int .i64 y] w (fun e w'=>e=.returned (.bool (c.gone y))/\Only [] w w'):=by
 refine aF fun R hR=>?_;obtain ⟨x0,_,_,x3,_⟩:=aY.cells hf;obtain ⟨hk,L,X,hp⟩:=G5.gh hf;have cl:=kX w hp hk y;unfold Co.gone at hR
 cases hu:(c.m.M.ob y).isSome with
 | false=>
  rw [hu] at cl hR;replace hR:Hid (∀ e w',e=.returned (.bool true)/\Only [] w w'->R e w'):=hR;clear hf hx h hk hp hu;go_in;go_wp2_with fail;refine cl.mono ?_;rintro e w1 ⟨rfl,ho⟩;have HO:=aA ho;clear cl ho;go_wp2_with fail;exact hR.out _ _ ⟨rfl,HO.out⟩
 | true=>
  rw [hu] at cl hR;replace hR:Hid (∀ e w',e=.returned (.bool (c.hid y))/\Only [] w w'->R e w'):=hR;have hy:=hk.inR hu;unfold Co.hid at hR
  by_cases hp2:c.ph=2
  ·rw [if_pos hp2] at hR;have hw:c.m.isW y=decide (c.m.col y=0):=by unfold Mk.isW;rw [hu];rfl
   rw [hw] at hR;have hon:x.on=true:=hx.on.trans (dD.2 (.inr hp2));have HF:=aA hf;have HRG:=aA ((h.mo (.inr hp2)).rg y);have HON:=aA hon;rw [hp2] at x3;clear hx h hk hp hu hw hon hp2 hf;go_in;go_wp2_with fail;refine cl.mono ?_;rintro e w1 ⟨rfl,ho⟩;have hf1:=HF.out.aN ho;have z2:=G5.m2 HON.out hf1;have z3:=(aY.cells hf1).2.2.2.1;have y3:=ho.cell x3 (by simp);obtain ⟨tg,tc,v,T,hg⟩:=RL.mk (G5.t2 (b:=b) (c:=c) (x:=x) (l:=l)) (G5.toR HON.out hf1);obtain ⟨U,hrow⟩:=hg.row;have k1:=hrow.cell 1 rfl;obtain ⟨k,rfl⟩:∃ k:Nat,y=(k:Int):=⟨y.toNat,by omega⟩;have aQy:(k:Int)<193:=by omega
   have hk0:(0:Int)<=(k:Int):=by omega
   obtain ⟨tb,tq,hte,kt⟩:=hg.tint.read.at (k:=k) (by rw [hg.tl];omega)
   cases hte
   rw [Nat.zero_add,hg.tv k (by omega)] at kt;have HO:=aA ho;clear cl ho hf1 hg hrow HF x0 x3 z3;generalize c.m.col (k:Int)=kc at*;have aQY:=HRG.out;rcases aQY with e0|e0|e0
   all_goals
    rw [e0] at kt hR;go_wp2_with fail;exact hR.out _ _ ⟨rfl,HO.out⟩
  rw [if_neg hp2] at hR;have hs:=G5.sw hf;have hsl:=h.uH;obtain ⟨sa,sc,hv⟩:=hs.len;have x8:=(aY.cells hf).2.2.2.2.2.2.2.2.1;rw [hv] at x8 hs;obtain ⟨n,hn⟩:∃ n,n=c.sw.length:=⟨_,rfl⟩;have HN:=aA hn;rw [<-hn] at x8 hs hsl;have HS:=aA hs;have hpb:((c.ph:Int) == 2)=false:=by rw [beq_eq_false_iff_ne];omega
  generalize c.ph=ph at*;clear hf hx h hk hp hu hv hs hn hp2;go_in;go_wp2_with fail;refine cl.mono ?_;rintro e w1 ⟨rfl,ho⟩;have y3:=ho.cell x3 (by simp);have y8:=ho.cell x8 (by simp);have HS1:Hid (aO w1 0 (.slice sa n sc) c.sw):=HS.out.only ho (by simp);have HO:=aA ho;clear cl ho x0 x3 x8;go_wp2_with fail;go_loopw [5] (fun iv wr=>∃ k:Nat,k<=n/\iv=.int .i64 k/\wr=w1/\Hid (∀ j,j<k->gI c.sw j≠y)) (fun iv _=>n - (intOf iv).toNat)
  case atStart=>exact ⟨0,by omega,rfl,rfl,fun j hj=>by omega⟩
  case round=>as_aux_lemma=>
   obtain ⟨k,hkn,rfl,rfl,HB⟩:=hrel
   by_cases hlt:k<n
   ·have hlt1:(k:Int)<(n:Int):=by omega
    have hk0:(0:Int)<=(k:Int):=by omega
    have hkl:k<c.sw.length:=by rw [<-HN.out];exact hlt
    obtain ⟨vb,vo,rfl,hcl⟩:=HS1.out.read.at hkl
    by_cases he:gI c.sw k=y
    ·have hin:decide (y∈c.sw)=true:=decide_eq_true (jQ.2 ⟨k,hkl,he⟩);rw [hin] at hR;rw [he] at hcl;clear he hin hkl;go_wp2_with fail;exact hR.out _ _ ⟨rfl,HO.out⟩
    have heb:(gI c.sw k == y)=false:=by simpa using he
    have HBN:Hid (∀ j,j<k+1->gI c.sw j≠y):=fun j hj=>by
     by_cases e:j=k
     ·rw [e];exact he
     exact HB.out j (by omega)
    clear he hkl;generalize gI c.sw k=z at*;go_wp2_with fail;exact ⟨⟨k+1,by omega,by go_num,by trivial,HBN⟩,by simp [intOf];omega⟩
   obtain rfl:k=n:=by omega
   have hlt1:¬ (k:Int)<(k:Int):=by omega
   have hout:decide (y∈c.sw)=false:=decide_eq_false (fun e=>by
    obtain ⟨j,hj,e2⟩:=jQ.1 e;exact HB.out j (by rw [HN.out];exact hj) e2)
   rw [hout] at hR;clear hout;go_wp2_with fail;exact hR.out _ _ ⟨rfl,HO.out⟩
theorem aGz (w:World) (hf:Fam w0 w (G5 b c x ++ l)):Calls prog 104 #[.pointer (some ⟨b,0,none⟩)] w (aK w (.int .i64 (c.ph:Int))):=by
 refine aF fun R hR=>?_;obtain ⟨_,_,_,x3,_⟩:=aY.cells hf;clear hf;generalize c.ph=ph at*;go_in;go_wp2_with fail;exact hR.out _ _ ⟨rfl,rfl⟩
theorem aEb (w:World) (hf:Fam w0 w (G5 b c x ++ l)):Calls prog 105 #[.pointer (some ⟨b,0,none⟩)] w (aK w (.int .i64 c.cr)):=by
 refine aF fun R hR=>?_;obtain ⟨_,_,_,_,x4,_⟩:=aY.cells hf;clear hf;go_in;go_wp2_with fail;exact hR.out _ _ ⟨rfl,rfl⟩
end
end Go.Proofs.YthflghdaejbdkaaGreat
