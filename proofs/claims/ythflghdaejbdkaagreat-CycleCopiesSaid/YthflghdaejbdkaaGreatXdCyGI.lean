/- Lemmas of this claim. -/
import Derived.Test.YthflghdaejbdkaaGreatXdCyGH
namespace Go.Proofs.YthflghdaejbdkaaGreat
open _root_.Go.Proofs.Tryz (prog)
open Go.RowKit Go.Maps
set_option maxHeartbeats 6400000
set_option maxRecDepth 100000
set_option linter.unusedVariables false
section
variable {w0 w w':World} {l:List Asn} {b:Nat} {t:Tb} {kk:Nat} {ev qv wv:Value} {nx:Nat} {wl:List Bool}
theorem TrA.trT (hk0:l[kk]?=some (TrA b t)) (hf:Fam w0 w l) (hm:kN w b ev qv wv nx wl t) (ev' qv' wv':Value) (nx':Nat) (wl':List Bool) (t':Tb) (h1:kN w' b ev' qv' wv' nx' wl' t')
  (h2:∀ x,trS b ev' qv' wv' x->trS b ev qv wv x\/w.heap.size<=x) (h3:aI (trS b ev qv wv) w w'):Fam w0 w' (l.set kk (TrA b t')):=by
 refine hf.turn kk hk0 fun S hS=>?_;obtain ⟨ev2,qv2,wv2,nx2,wl2,hm2,hS⟩:=hS;obtain ⟨rfl,rfl,rfl⟩:=hm.same hm2;exact ⟨trS b ev' qv' wv',⟨ev',qv',wv',nx',wl',h1,fun k=>Iff.rfl⟩,fun k hk=>(h2 k hk).imp (fun x=>(hS k).2 x) id,h3.mono (fun k hk=>.inl ((hS k).2 hk))⟩
theorem TrA.aMb (hk0:l[kk]?=some (TrA b t)) (hf:Fam w0 w l) (ht:kN w b ev qv wv nx wl t) {w2:World} {v':Value} {q':List Int} (he:aO w2 w.heap.size v' q') (ho:Only [] w w2) :
  w2.cell? ⟨b,1,none⟩=some qv/\w2.frozen? ⟨b,1,none⟩=false/\kN (w2.setCell ⟨b,1,none⟩ v') b ev v' wv nx wl ⟨t.ents,q',t.ph,t.nx,t.fd⟩/\Fam w0 (w2.setCell ⟨b,1,none⟩ v') (l.set kk (TrA b ⟨t.ents,q',t.ph,t.nx,t.fd⟩)):=by
 have hbl:b<w.heap.size:=by obtain ⟨U,hr⟩:=ht.row;exact hr.lt
 have ht2:=ht.aN ho;have hs:Only [b] w2 (w2.setCell ⟨b,1,none⟩ v'):=(Only.refl _ w2).set (.inl (by simp)) _;obtain ⟨h1,h2,h3⟩:=ht2.rest hs;have hnb:∀ g,v'.ownBlock=some g->w.heap.size<=g:=fun g hg=>(he.own g hg).1;have hT:kN (w2.setCell ⟨b,1,none⟩ v') b ev v' wv nx wl ⟨t.ents,q',t.ph,t.nx,t.fd⟩:=
  ⟨ht2.row.imp fun U x=>x.set 1 _,h1,(he.base (Nat.zero_le _)).only hs (fun g hg=>by have:=hnb g hg;simp;omega),h3,ht.now,ht.two,fun g hg=>⟨(ht.n1 g hg).1,(ht.n1 g hg).2.1,fun e=>by have:=hnb g e;have:=(ht.ents.own g hg).2;omega⟩,fun g hg=>⟨by have:=hnb g hg;omega,fun e=>by have:=hnb g hg;have:=(ht.wh.own g e).2;omega⟩,ht.n3⟩
 refine ⟨ht2.cells.2.1,ht2.cells.2.2.2.2.2 1,hT,TrA.trT hk0 hf ht ev v' wv nx wl _ hT (fun x hx=>?_) ((ho.mono (G:=[b]) (by simp)).trans hs (by simp) |>.toP (fun x hx=>.inl (.inl (by simpa using hx))))⟩;rcases hx with hx|hx|hx|hx
 ·exact .inl (.inl hx)
 ·exact .inl (.inr (.inl hx))
 ·exact .inr (hnb x hx)
 exact .inl (.inr (.inr (.inr hx)))
theorem aDv (w:World) (hk0:l[kk]?=some (TrA b t)) (hf:Fam w0 w l) (hl:t.q.length<=1000000):Calls prog 147 #[.pointer (some ⟨b,0,none⟩)] w (fun e w'=>e=.returned (.tuple #[.int .i64 t.take.1,.int .i64 t.take.2.1])/\Fam w0 w' (l.set kk (TrA b t.take.2.2))):=by
 refine aF fun R hR=>?_;obtain ⟨S0,⟨ev,qv,wv,nx,wl,ht,_⟩,_⟩:=hf.get kk hk0;have HT:=aA ht;have HF:=aA hf;unfold Tb.take at hR
 cases e:t.q with
 | nil=>
  obtain ⟨z0,z1,z2,z3,z4,zf⟩:=ht.cells;rw [e] at hR;have hi:=ht.q;rw [e] at hi;obtain ⟨a,c,rfl⟩:=hi.len;clear ht hi hf;replace z1:w.cell? ⟨b,1,none⟩=some (.slice a 0 c):=z1;go_in;go_wp2_with fail;exact hR.out _ _ ⟨rfl,by show Fam w0 w (l.set kk (TrA b t));rw [lX hk0];exact HF.out⟩
 | cons x rs=>
  rw [e] at hR hl;have hi:=ht.q;rw [e] at hi;obtain ⟨z0,z1,z2,z3,z4,zf⟩:=ht.cells;rcases hi.form with ⟨_,h0⟩|⟨g,cap,rfl,_,hgl,hlc,hc⟩
  ·cases h0
  have hc0:w.cell? ⟨g,0,none⟩=some (.int .i64 x):=hc 0 (by simp);have HRD:Hid (∀ k,k<rs.length->w.cell? ⟨g,1+k,none⟩=some (.int .i64 (gI rs k))):=fun k hk=>by
   have h4:=hc (k+1) (by simp;omega);rw [Nat.add_comm 1 k,h4];simp [gI]
  obtain ⟨n,hn⟩:∃ z,z=rs.length:=⟨_,rfl⟩;have HN:=aA hn;have hl2:n<=1000000:=by rw [hn];simp at hl;omega
  replace hlc:n+1<=cap:=by rw [hn];simpa using hlc
  replace z1:w.cell? ⟨b,1,none⟩=some (.slice (some ⟨g,0,none⟩) (n+1) cap):=by rw [hn];exact z1
  have z1a:(w.alloc (.cells #[] 3)).cell? ⟨b,1,none⟩=some (.slice (some ⟨g,0,none⟩) (n+1) cap):=by rw [World.cell?_alloc_past _ _ _ (World.block_lt_of_cell? w _ z1)];exact z1
  have hn1:((n:Int)+1 == 0)=false:=by rw [beq_eq_false_iff_ne];omega
  have hn2:(0:Int)<(n:Int)+1:=by omega
  clear ht hi hf hn hl hc z0 z2 z3 z4 zf
  by_cases hc1:cap=1
  ·subst hc1;obtain rfl:n=0:=by omega
   have hrs:rs=[]:=List.eq_nil_of_length_eq_zero HN.out.symm;subst hrs;replace z1:w.cell? ⟨b,1,none⟩=some (.slice (some ⟨g,0,none⟩) 1 1):=z1;replace z1a:(w.alloc (.cells #[] 3)).cell? ⟨b,1,none⟩=some (.slice (some ⟨g,0,none⟩) 1 1):=z1a;clear hn1 hn2;go_in;go_wp2_with (at_builtin;refine fQ rfl _ _ rfl w ((Only.refl _ _).alloc _) _ rfl (aO.made _) _ 0 _ [] rfl rfl (.inr ⟨_,_,rfl,rfl⟩) (by omega) ?c1)
   case c1=>
    intro g2 cap2 w1 hi ho;obtain ⟨y1,yf,_,hf2⟩:=TrA.aMb hk0 HF.out HT.out hi.out ho.out;have HF2:=aA hf2;clear hi ho hf2;go_wp2_with fail;exact hR.out _ _ ⟨rfl,HF2.out⟩
  have hc2:(cap=1)=False:=eq_false hc1;have hl3:(1:Int)<=((n+1:Nat):Int):=by omega
  have hl4:((n+1:Nat):Int)<=cap:=by omega
  go_in;go_wp2_with (at_builtin;refine fQ rfl _ _ rfl w ((Only.refl _ _).alloc _) _ rfl (aO.made _) (some ⟨g,1,none⟩) n _ rs rfl HN.out.symm (.inl ⟨g,1,_,by rw [HN.out],HRD.out⟩) hl2 ?c1)
  case c1=>
   intro g2 cap2 w1 hi ho;obtain ⟨y1,yf,_,hf2⟩:=TrA.aMb hk0 HF.out HT.out hi.out ho.out;have HF2:=aA hf2;clear hi ho hf2;go_wp2_with fail;exact hR.out _ _ ⟨rfl,HF2.out⟩
end
section
variable {w0 w w':World} {l:List Asn} {b:Nat} {c:Co} {x:GX5} {i:Nat} {m:Mk} {t:Tb}
theorem aGv (w:World) (hf:Fam w0 w (G5 b c x ++ l)) (hx:x.ok c) (h:c.Okc):Calls prog 102 #[.pointer (some ⟨b,0,none⟩)] w (pK w0 l b c.take):=by
 refine aF fun R hR=>?_;have x1:=(aY.cells hf).2.1;have ct:=aDv w (kk:=2) (b:=x.ub) (t:=c.t) rfl hf (by have:=h.tg.b.q20;omega);replace ct:Calls prog 147 #[.pointer (some ⟨x.ub,0,none⟩)] w (fun e w'=>e=.returned (.tuple #[.int .i64 c.t.take.1,.int .i64 c.t.take.2.1])/\Fam w0 w' (G5 b c.take.2.2 x ++ l)):=ct;have HX:Hid (x.ok c.take.2.2):=⟨hx.on,hx.mv,hx.m0,hx.mv2⟩;clear hf hx h;have HR:Hid (∀ w',Fam w0 w' (G5 b c.take.2.2 x ++ l)->R (.returned (.tuple #[.int .i64 c.t.take.1,.int .i64 c.t.take.2.1])) w'):=fun w' h2=>hR.out _ _ ⟨rfl,x,HX.out,h2⟩;clear hR HX;generalize c.t.take.1=r1 at*;generalize c.t.take.2.1=r2 at*;generalize c.take.2.2=c2 at*;go_in;go_wp2_with fail;refine ct.mono ?_;rintro e w2 ⟨rfl,hf2⟩;have F2:=aA hf2;clear ct hf2;go_wp2_with fail;exact HR.out _ F2.out
theorem aPO (h:c.Okc) {n:Int} (he:(c.t.target n).2=0) (hz:(c.t.target n).1=0):c.target n=(0,0,c):=by
 have h0:(c.m.M.ob 0).isSome=false:=by
  cases e:(c.m.M.ob 0).isSome with
  | false=>rfl
  | true=>have:=h.hf.ok.inR e;omega
 have hh:c.hid 0=false:=by
  unfold Co.hid;split
  ·unfold Mk.isW;rw [h0];rfl
  refine decide_eq_false fun e=>?_;have:=h.su 0 e;rw [h0] at this;cases this
 unfold Co.target;rw [if_neg (fun e=>e he),hz,if_neg (by rw [hh];decide)];have hs:c.m.bH 0=c.m:=by
  unfold Mk.bH;rw [if_neg (fun e=>by have:=(Mk.kG.1 e).1;exact this rfl)]
 rw [hs];split<;>rfl
theorem aOf (h:c.Okc) {n:Int} (he:(c.t.target n).2=0) (hz:(c.t.target n).1≠0):(c.m.M.ob (c.t.target n).1).isSome=true/\(c.ph≠2->c.hid (c.t.target n).1=false):=by
 unfold Tb.target at he hz ⊢;split at he
 ·cases he
 rename_i hc;rw [if_neg hc] at hz ⊢;refine ⟨h.tg.b.us _ (by omega) hz,fun hp=>?_⟩;unfold Co.hid;rw [if_neg hp];exact decide_eq_false (h.st _ (by omega))
theorem aDV (w:World) (hf:Fam w0 w (G5 b c x ++ l)) (hx:x.ok c) (h:c.Okc) (n:Int):Calls prog 101 #[.pointer (some ⟨b,0,none⟩),.int .i64 n] w (pK w0 l b (c.target n)):=by
 refine aF fun R hR=>?_;have hcs:=aY.cells hf;have x1:=hcs.2.1;have x3:=hcs.2.2.2.1;obtain ⟨ev,qv,wv,nx,wl,ht⟩:=G5.tr hf;have ct:=aBL w ht n;have HX:=aA hx
 by_cases he:(c.t.target n).2=0
 ·by_cases hz:(c.t.target n).1=0
  ·rw [aPO h he hz] at hR;rw [he,hz] at ct;have F0:=aA hf;clear hf hx h ht he hz hcs x3;go_in;go_wp2_with fail;refine ct.mono ?_;rintro e _ ⟨rfl,rfl⟩;clear ct;go_wp2_with fail;exact hR.out _ _ ⟨rfl,x,HX.out,F0.out⟩
  obtain ⟨hu,hh⟩:=aOf h he hz;have hr:=h.hf.ok.inR hu;rw [he] at ct;have hTG:c.target n=if c.hid (c.t.target n).1=true then (0,0,c) else ((c.t.target n).1,0,if c.ph=1 then { c with m:=c.m.bH (c.t.target n).1 } else c):=by
   unfold Co.target;rw [if_neg (fun e=>e he)]
  rw [hTG] at hR;obtain ⟨y,hy⟩:∃ y,y=(c.t.target n).1:=⟨_,rfl⟩;rw [<-hy] at hR hu hh hr ct hz;have hzb:(y == 0)=false:=by simpa using hz
  clear hTG hy he hz ht hcs
  by_cases h1:c.ph=1
  ·rw [hh (by omega)] at hR;have hon:x.on=true:=hx.on.trans (dD.2 (.inl h1));have cs:=aAh w (G5.t2 (b:=b) (c:=c) (x:=x) (l:=l)) (G5.toR hon hf) (h.mo (.inl h1)) y;rw [G5.rl hon] at cs;have x2:=G5.m2 hon hf;have H1:=aA h1;have HR:Hid (∀ w',Fam w0 w' (G5 b (c.oH (c.m.bH y)) x ++ l)->R (.returned (.tuple #[.int .i64 y,.int .i64 0])) w'):=fun w' h2=>hR.out _ _ (by
    rw [if_neg (by decide),if_pos H1.out];exact ⟨rfl,x,⟨HX.out.on,HX.out.mv,HX.out.m0,HX.out.mv2⟩,h2⟩)
   have HP3:Hid (∀ wx,Fam w0 wx (G5 b (c.oH (c.m.bH y)) x ++ l)->wx.cell? ⟨b,3,none⟩=some (.int .i64 1)):=fun wx hwx=>by
    have:=(aY.cells hwx).2.2.2.1;have h1':(c.oH (c.m.bH y)).ph=1:=H1.out;rw [h1'] at this;exact this
   rw [h1] at x3;clear hf hx h hon h1 hh hu hr hR;generalize c.m.jL y=se at*;go_in;go_wp2_with fail;refine ct.mono ?_;rintro e _ ⟨rfl,rfl⟩;clear ct;go_wp2_with fail;refine cs.mono ?_;rintro e w2 ⟨rfl,hf2⟩;have F2:=aA hf2;have y3:=HP3.out w2 hf2;clear cs hf2 x1 x2 x3;go_wp2_with fail;exact HR.out _ F2.out
  by_cases h2:c.ph=2
  ·have hon:x.on=true:=hx.on.trans (aJG h2);have x2:=G5.m2 hon hf;obtain ⟨tg,tc,v,T,hg⟩:=RL.mk (G5.t2 (b:=b) (c:=c) (x:=x) (l:=l)) (G5.toR hon hf);obtain ⟨U,hrow⟩:=hg.row;have k1:=hrow.cell 1 rfl;obtain ⟨k,rfl⟩:∃ k:Nat,y=(k:Int):=⟨y.toNat,by omega⟩;have aQy:(k:Int)<193:=by omega
   have hk0:(0:Int)<=(k:Int):=by omega
   obtain ⟨tb,tq,hte,kt⟩:=hg.tint.read.at (k:=k) (by rw [hg.tl];omega)
   cases hte
   rw [Nat.zero_add,hg.tv k (by omega)] at kt;have hw:c.hid (k:Int)=decide (c.m.col (k:Int)=0):=by unfold Co.hid;rw [if_pos h2];unfold Mk.isW;rw [hu];rfl
   have HRG:=aA ((h.mo (.inr h2)).rg (k:Int));rw [hw,if_neg h1] at hR;have F0:=aA hf;rw [h2] at x3;clear hf hx h hon h1 h2 hh hu hr hg hrow hw;generalize c.m.col (k:Int)=kc at*;have aQY:=HRG.out;rcases aQY with e0|e0|e0
   all_goals
    rw [e0] at kt hR;go_in;go_wp2_with fail;refine ct.mono ?_;rintro e _ ⟨rfl,rfl⟩;clear ct;go_wp2_with fail;exact hR.out _ _ ⟨rfl,x,HX.out,F0.out⟩
  rw [hh h2,if_neg h1] at hR;have F0:=aA hf;have p1:((c.ph:Int) == 1)=false:=by rw [beq_eq_false_iff_ne];omega
  have p2:((c.ph:Int) == 2)=false:=by rw [beq_eq_false_iff_ne];omega
  replace hR:Hid (∀ e w',pK w0 l b (y,0,c) e w'->R e w'):=hR;have HR:Hid (∀ w',Fam w0 w' (G5 b c x ++ l)->R (.returned (.tuple #[.int .i64 y,.int .i64 0])) w'):=fun w' h2=>hR.out _ _ ⟨rfl,x,HX.out,h2⟩;clear hf hx h h1 h2 hh hu hr hR HX;generalize c.ph=ph at*;go_in;go_wp2_with fail;refine ct.mono ?_;rintro e _ ⟨rfl,rfl⟩;clear ct;go_wp2_with fail;exact HR.out _ F0.out
 have hTG:c.target n=(0,(c.t.target n).2,c):=by unfold Co.target;rw [if_pos he]
 rw [hTG] at hR;have heb:((c.t.target n).2 != 0)=true:=by simpa using he
 have F0:=aA hf;clear hf hx h ht he hcs x3 hTG;generalize (c.t.target n).2=e2 at*;generalize (c.t.target n).1=e1 at*;go_in;go_wp2_with fail;refine ct.mono ?_;rintro e _ ⟨rfl,rfl⟩;clear ct;go_wp2_with fail;exact hR.out _ _ ⟨rfl,x,HX.out,F0.out⟩
theorem QL.last (t':Tb) (r:Nat):QL ((G5 b c x ++ l) ++ [GkA r x.q (fun _=>0) []]) 0 (G5 b c x ++ l).length 2 x.q r x.ub (Mk.start c.m.M) t'=(G5 b (c.dX t') x ++ l) ++ [GkA r x.q (fun _=>0) []]:=by
 have h5:(G5 b c x ++ l).length=5+l.length:=by rw [List.length_append];rfl
 have h6:((G5 b c x ++ l).set 2 (TrA x.ub t')).length=5+l.length:=by rw [List.length_set,h5]
 unfold QL RL;rw [List.set_append_left _ _ (by omega),List.set_append_left _ _ (by omega),List.set_append_right _ _ (by rw [List.length_set,h6,h5];omega),List.length_set,h6,h5,Nat.sub_self];rfl
theorem aGy (w:World) (hf:Fam w0 w (G5 b c x ++ l)) (hx:x.ok c) (h:c.Okc) (k y g:Int):Calls prog 100 #[.pointer (some ⟨b,0,none⟩),.int .i64 k,.int .i64 y,.int .i64 g] w (pK w0 l b (c.refer k y g)):=by
 refine aF fun R hR=>?_;have hcs:=aY.cells hf;have x3:=hcs.2.2.2.1;have F0:=aA hf;have HX:=aA hx
 by_cases hk:k<1\/3<k
 ·have hRF:c.refer k y g=(0,1,c):=by
   have hz:∀ z,c.t.add c.m k z g=(0,1,c.t):=fun z=>by unfold Tb.add;rw [if_pos hk]
   unfold Co.refer
   by_cases h2:c.ph=2
   ·rw [if_pos h2,if_pos hk]
   rw [if_neg h2,hz]
  rw [hRF] at hR;clear hf hx h hRF hcs x3
  by_cases k1:k<1
  ·clear hk;go_in;go_wp2_with fail;exact hR.out _ _ ⟨rfl,x,HX.out,F0.out⟩
  have k3:3<k:=by omega
  clear hk;go_in;go_wp2_with fail;exact hR.out _ _ ⟨rfl,x,HX.out,F0.out⟩
 have k1:¬ k<1:=by omega
 have k3:¬ 3<k:=by omega
 by_cases h2:c.ph=2
 ·have hRF:c.refer k y g=(0,13,c):=by unfold Co.refer;rw [if_pos h2,if_neg hk]
  rw [hRF] at hR;rw [h2] at x3;clear hf hx h hRF hcs hk h2;go_in;go_wp2_with fail;exact hR.out _ _ ⟨rfl,x,HX.out,F0.out⟩
 have hpb:((c.ph:Int) == 2)=false:=by rw [beq_eq_false_iff_ne];omega
 have ht0:=h.t0 h2;have ch:=qX w hf hx h y;have hRF:c.refer k y g=((c.t.add c.m k (if c.hid y then 0 else y) g).1,(c.t.add c.m k (if c.hid y then 0 else y) g).2.1,{ c with t:=(c.t.add c.m k (if c.hid y then 0 else y) g).2.2 }):=by unfold Co.refer;rw [if_neg h2]
 rw [hRF] at hR
 cases hg:c.gone y with
 | true=>
  have hadd:c.t.add c.m k (if c.hid y then 0 else y) g=(0,3,c.t):=by
   have hz:(c.m.M.ob (if c.hid y then 0 else y)).isSome=false:=by
    cases e:c.hid y with
    | true=>
     show (c.m.M.ob 0).isSome=false
     cases e2:(c.m.M.ob 0).isSome with
     | false=>rfl
     | true=>have:=h.hf.ok.inR e2;omega
    | false=>
     unfold Co.gone at hg;rw [e,Bool.or_false] at hg;show (c.m.M.ob y).isSome=false;simpa using hg
   unfold Tb.add;rw [if_neg hk,if_neg (fun e=>e ht0),if_pos hz]
  rw [hadd] at hR;rw [hg] at ch;replace hR:Hid (∀ e w',pK w0 l b (0,3,c) e w'->R e w'):=hR;have HR:Hid (∀ w',Fam w0 w' (G5 b c x ++ l)->R (.returned (.tuple #[.int .i64 0,.int .i64 3])) w'):=fun w' h2=>hR.out _ _ ⟨rfl,x,HX.out,h2⟩;clear hf hx h hRF hcs hk h2 ht0 hg hadd hR HX;generalize c.ph=ph at*;go_in;go_wp2_with fail;refine ch.mono ?_;rintro e w1 ⟨rfl,ho⟩;have F1:=aA (F0.out.aN ho);clear ch ho F0;go_wp2_with fail;exact HR.out _ F1.out
 | false=>
  have hhy:c.hid y=false:=by
   unfold Co.gone at hg
   cases e:c.hid y with
   | true=>rw [e,Bool.or_true] at hg;cases hg
   | false=>rfl
  rw [hhy] at hR;replace hR:Hid (∀ e w',pK w0 l b ((c.t.add c.m k y g).1,(c.t.add c.m k y g).2.1,c.dX (c.t.add c.m k y g).2.2) e w'->R e w'):=hR;rw [hg] at ch;have HB:Hid (∀ wx,Fam w0 wx (G5 b c x ++ l)->wx.cell? ⟨b,0,none⟩=some (.pointer (some ⟨x.q,0,none⟩))/\Calls prog 181 #[.pointer (some ⟨x.q,0,none⟩),.slice none 0 0] wx (fun e w'=>∃ r,e=.returned (.tuple #[.pointer (some ⟨r,0,none⟩),.int .i64 0])/\Fam w0 w' ((G5 b c x ++ l) ++ [GkA r x.q (fun _=>0) []]))):=fun wx hwx=>by
   refine ⟨(aY.cells hwx).1,?_⟩;have hbad:¬ c.m.M.fG []:=fun ⟨y,hy,_⟩=>by simp at hy
   refine (aAl wx hwx (i:=0) rfl none 0 0 [] rfl (by omega) (.inr ⟨none,0,rfl,rfl⟩) (fun _ _ _ _=>.inr ⟨none,0,rfl,rfl⟩) h.hf).mono ?_;rintro e w' (⟨hb,_⟩|⟨_,r,he,hf'⟩)
   ·exact absurd hb hbad
   have hq:=QL.last (b:=b) (c:=c) (x:=x) (l:=l) c.t r;have e1:QL ((G5 b c x ++ l) ++ [GkA r x.q (fun _=>0) []]) 0 (G5 b c x ++ l).length 2 x.q r x.ub (Mk.start c.m.M) c.t=RL ((G5 b c x ++ l) ++ [GkA r x.q (fun _=>0) []]) 0 (G5 b c x ++ l).length x.q r (Mk.start c.m.M):=by
    unfold QL;congr 1
   refine ⟨r,he,?_⟩;have hf2:Fam w0 w' (RL ((G5 b c x ++ l) ++ [GkA r x.q (fun _=>0) []]) 0 (G5 b c x ++ l).length x.q r (Mk.start c.m.M)):=hf';rw [<-e1,hq] at hf2;exact hf2
  have HA:Hid (∀ wx r,Fam w0 wx ((G5 b c x ++ l) ++ [GkA r x.q (fun _=>0) []])->wx.cell? ⟨b,1,none⟩=some (.pointer (some ⟨x.ub,0,none⟩))/\Calls prog 146 #[.pointer (some ⟨x.ub,0,none⟩),.pointer (some ⟨r,0,none⟩),.int .i64 k,.int .i64 y,.int .i64 g] wx (fun e w'=>e=.returned (.tuple #[.int .i64 (c.t.add c.m k y g).1,.int .i64 (c.t.add c.m k y g).2.1])/\Fam w0 w' (G5 b (c.dX (c.t.add c.m k y g).2.2) x ++ l))):=fun wx r hwx=>by
   refine ⟨(aY.cells hwx.pop).2.1,?_⟩;have h5:(G5 b c x ++ l).length=5+l.length:=by rw [List.length_append];rfl
   have T3:Three ((G5 b c x ++ l) ++ [GkA r x.q (fun _=>0) []]) 0 (G5 b c x ++ l).length 2:=⟨⟨by simp [G5],by simp,by omega⟩,by simp [G5],by decide,by omega⟩;have hf3:Fam w0 wx (QL ((G5 b c x ++ l) ++ [GkA r x.q (fun _=>0) []]) 0 (G5 b c x ++ l).length 2 x.q r x.ub (Mk.start c.m.M) c.t):=by rw [QL.last];exact hwx
   have:=aIc wx T3 hf3 k y g;have ea:∀ (k y g:Int),c.t.add (Mk.start c.m.M) k y g=c.t.add c.m k y g:=fun _ _ _=>rfl;rw [ea,QL.last] at this;exact this.mono fun e w' ⟨h1,h2⟩=>⟨h1,h2.pop⟩
  have HR:Hid (∀ w',Fam w0 w' (G5 b (c.dX (c.t.add c.m k y g).2.2) x ++ l)->R (.returned (.tuple #[.int .i64 (c.t.add c.m k y g).1,.int .i64 (c.t.add c.m k y g).2.1])) w'):=fun w' h2=>hR.out _ _ ⟨rfl,x,⟨HX.out.on,HX.out.mv,HX.out.m0,HX.out.mv2⟩,h2⟩;clear hf hx h hRF hcs hk h2 ht0 hg hhy hR HX;generalize (c.t.add c.m k y g).1=a1 at*;generalize (c.t.add c.m k y g).2.1=a2 at*;generalize c.dX (c.t.add c.m k y g).2.2=c2 at*;generalize c.ph=ph at*;go_in;go_wp2_with fail;refine ch.mono ?_;rintro e w1 ⟨rfl,ho⟩;obtain ⟨z0,cb⟩:=HB.out w1 (F0.out.aN ho);clear ch ho F0 HB x3;go_wp2_with fail;refine cb.mono ?_;rintro e w2 ⟨r,rfl,hf2⟩;obtain ⟨z1,ca⟩:=HA.out w2 r hf2;clear cb hf2 HA z0;go_wp2_with fail;refine ca.mono ?_;rintro e w3 ⟨rfl,hf3⟩;have F3:=aA hf3;clear ca hf3;go_wp2_with fail;exact HR.out _ F3.out
theorem aEc (w:World) (hf:Fam w0 w (G5 b c x ++ l)) (hx:x.ok c) (h:c.Okc) (a:Option Addr) (n cp:Nat) (roots:List Int) (hl:roots.length=n) (hn:n<=1000000) (hr:∀ wx,Fam w0 wx l->nI wx (.slice a n cp) roots) :
  Calls prog 98 #[.pointer (some ⟨b,0,none⟩),.slice a n cp] w (aPn w0 l b (c.begin roots)):=by
 refine aF fun R hR=>?_;have hcs:=aY.cells hf;have x0:=hcs.1;have x3:=hcs.2.2.2.1;have F0:=aA hf;have HX:=aA hx;unfold Co.begin at hR
 by_cases aLi:192<roots.length
 ·rw [if_pos aLi] at hR;have h1:(192:Int)<n:=by omega
  clear aLi hr h hl hf hx hcs x3;go_in;go_wp2_with fail;exact hR.out _ _ ⟨rfl,x,HX.out,F0.out⟩
 rw [if_neg aLi] at hR;have h1:¬ (192:Int)<n:=by omega
 by_cases hp:c.ph≠0
 ·rw [if_pos hp] at hR;have hpb:((c.ph:Int) != 0)=true:=by simpa using hp
  have HR:Hid (∀ w',Fam w0 w' (G5 b c x ++ l)->R (.returned (.int .i64 13)) w'):=fun w' h2=>hR.out _ _ ⟨rfl,x,HX.out,h2⟩;clear aLi hr h hl hf hx hp hcs HX hR;generalize c.ph=ph at*;go_in;go_wp2_with fail;exact HR.out _ F0.out
 rw [if_neg hp] at hR;have hp0:c.ph=0:=Classical.not_not.1 hp;rw [hp0] at x3;have hon:x.on=false:=hx.on.trans (aAs (by omega) (by omega));have h55:(G5 b c x ++ l).length=5+l.length:=by rw [List.length_append];rfl
 have cb:=aAl w hf (i:=0) rfl a n cp roots hl hn (hr w (Fam.rest hf)) (fun r w' m' hfm=>hr w' (by
  refine hfm.selC (fun k=>5+k) (fun k Y hk=>?_) (fun j k _ _ hne e=>hne (by omega));have hl2:=(List.getElem?_eq_some_iff.1 hk).1;have h5:(G5 b c x).length=5:=rfl;unfold RL;rw [List.getElem?_set_ne (by omega),List.getElem?_set_ne (by omega),List.getElem?_append_left (by omega),List.getElem?_append_right (by omega),show 5+k - (G5 b c x).length=k by omega];exact hk)) h.hf
 have HNL:=aA hl;have HON:=aA hon;clear hr h hl hf hx hp hcs hon hp0;go_in;go_wp2_with fail;refine cb.mono ?_;rintro e w1 (⟨hbad,rfl,hf1⟩|⟨hbad,r2,rfl,hf1⟩)
 ·rw [if_pos hbad] at hR;have F1:=aA hf1;clear cb hf1 hbad F0;go_wp2_with fail;exact hR.out _ _ ⟨rfl,x,HX.out,F1.out⟩
 rw [if_neg hbad] at hR;have hM:((Mk.start c.m.M).bC roots).M=c.m.M:=Mk.qA _ _;have F2:Hid (Fam w0 w1 ([GH x.q ((Mk.start c.m.M).bC roots).M,GkA r2 x.q ((Mk.start c.m.M).bC roots).col ((Mk.start c.m.M).bC roots).list,TrA x.ub c.t,dQ x.sv c.sw,dZ b 99 (aY b c x)] ++ l)):=by
  unfold RL at hf1;rw [List.set_append_left _ _ (by omega),List.set_append_right _ _ (by rw [List.length_set];omega),List.length_set,Nat.sub_self] at hf1;exact hf1.aOh
 have r2c:=F2.out.row 4 rfl;have y2c:=r2c.cell 2 rfl;have y2f:=r2c.free 2;have y3c:=r2c.cell 3 rfl;have y3f:=r2c.free 3;have y7c:=r2c.cell 7 rfl;have y7f:=r2c.free 7;have y4c:=r2c.cell 4 rfl;have y4f:=r2c.free 4;have F5:Hid (Fam w0 ((((w1.setCell ⟨b,2,none⟩ (.pointer (some ⟨r2,0,none⟩))).setCell ⟨b,3,none⟩ (.int .i64 1)).setCell ⟨b,7,none⟩ (.int .i64 0)).setCell ⟨b,4,none⟩ (.int .i64 (-1 - (n:Int)))) (G5 b { c with m:=(Mk.start c.m.M).bC roots,ph:=1,cr:=-1 - (n:Int),mv:=0 } { x with r:=r2,on:=true,mv:=0 } ++ l)):=
  (((F2.out.bQ 4 rfl 2 (.pointer (some ⟨r2,0,none⟩))).bQ 4 rfl 3 (.int .i64 1)).bQ 4 rfl 7 (.int .i64 0)).bQ 4 rfl 4 (.int .i64 (-1 - (n:Int)))
 clear cb hf1 hbad hM r2c F2 F0;go_wp2_with fail;exact hR.out _ _ ⟨rfl,{ x with r:=r2,on:=true,mv:=0 },⟨rfl,fun e=>(by cases e),fun _ _=>rfl,Nat.zero_le _⟩,by rw [HNL.out];exact F5.out⟩
theorem aIX (w:World) (n r:Int) (h:n<1\/24<n\/r<0\/100<r):Calls prog 36 #[.int .i64 n,.int .i64 r] w (fun e w'=>e=.returned (.tuple #[.pointer none,.int .i64 1])/\Only [] w w'):=by
 refine aF fun R hR=>?_
 by_cases h0:n<1\/24<n
 ·have ch:=aLl w n h0;clear h h0;go_in;go_wp2_with fail;refine ch.mono ?_;rintro e _ ⟨rfl,rfl⟩;go_wp2_with fail;exact hR.out _ _ ⟨rfl,Only.refl _ _⟩
 obtain ⟨k,rfl⟩:∃ k:Nat,n=(k:Int):=⟨n.toNat,by omega⟩;have ch:=aCG w k (by omega) (by omega)
 by_cases hr0:r<0
 ·clear h h0;go_in;go_wp2_with fail;refine ch.mono ?_;rintro e w1 ⟨hb,L,X,rfl,_,_,ho⟩;have HO:=aA ho;clear ch ho;go_wp2_with fail;exact hR.out _ _ ⟨rfl,HO.out⟩
 have hr1:100<r:=by omega
 clear h h0;go_in;go_wp2_with fail;refine ch.mono ?_;rintro e w1 ⟨hb,L,X,rfl,_,_,ho⟩;have HO:=aA ho;clear ch ho;go_wp2_with fail;exact hR.out _ _ ⟨rfl,HO.out⟩
theorem aGA (w:World) (hf:Fam w0 w l) (n:Nat) (r:Int) (h1:1<=n) (h24:n<=24) (hr:0<=r/\r<=100):Calls prog 36 #[.int .i64 (n:Int),.int .i64 r] w (fun e w'=>∃ b,e=.returned (.tuple #[.pointer (some ⟨b,0,none⟩),.int .i64 0])/\Fam w0 w' (l ++ [GoA b (Co.new n r)])):=by
 refine aF fun R hR=>?_;have ch:=aCG w n h1 h24;have HF:=aA hf;have HKF:Hid ((Hp.new n).OkF):=Hp.OkF.new h1 h24;have r1:¬ r<0:=by omega
 have r2:¬ 100<r:=by omega
 clear hf h1 h24 hr;go_in;go_wp2_with fail;refine ch.mono ?_;rintro e w1 ⟨hb,L,X,rfl,hp,hL,ho⟩;have F1:Hid (Fam w0 w1 (l ++ [GH hb (Hp.new n)] ++ [NoA])):=(HF.out.add (aNr hp HKF.out.ok hL ho)).aOX;have ct:=aHZ w1;clear ch hp hL ho HF;go_wp2_with fail;refine ct.mono ?_;rintro e w3 ⟨rfl,rfl⟩;have F3:Hid (Fam w0 (w1.alloc (.cells #[.slice none 0 0,.slice none 0 0,.int .i64 0,.int .i64 0,.slice none 0 0] 52)) (l ++ [GH hb (Hp.new n)] ++ [NoA] ++ [TrA w1.heap.size Tb.new])):=F1.out.add (aMy w1);obtain ⟨t,ht⟩:∃ t,t=w1.heap.size:=⟨_,rfl⟩;rw [<-ht] at F3 ⊢;generalize w1.alloc (.cells #[.slice none 0 0,.slice none 0 0,.int .i64 0,.int .i64 0,.slice none 0 0] 52)=w3 at*;have F4:=F3.out.jG (v:=.slice none 0 0) (m:=[]) (Only.refl [] w3) (aO.nil w3 w3.heap.size);have F5:Hid (Fam w0 (w3.alloc (.cells #[.pointer (some ⟨hb,0,none⟩),.pointer (some ⟨t,0,none⟩),.pointer none,.int .i64 0,.int .i64 0,.int .i64 r,.int .i64 (n:Int),.int .i64 0,.slice none 0 0] 99)) (G5 w3.heap.size (Co.new n r) ⟨hb,0,t,.slice none 0 0,false,0⟩ ++ l)):=by
  have f5:=F4.aAJ 99 [.pointer (some ⟨hb,0,none⟩),.pointer (some ⟨t,0,none⟩),.pointer none,.int .i64 0,.int .i64 0,.int .i64 r,.int .i64 (n:Int),.int .i64 0,.slice none 0 0];exact f5.aMO
 clear ct F1 F3 F4 ht;go_wp2_with fail;exact hR.out _ _ ⟨w3.heap.size,rfl,GoA.born ⟨rfl,fun e=>(by cases e),fun e=>(by cases e),Nat.zero_le _⟩ F5.out⟩
end
end Go.Proofs.YthflghdaejbdkaaGreat
