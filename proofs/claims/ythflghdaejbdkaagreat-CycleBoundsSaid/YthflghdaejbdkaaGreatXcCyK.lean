/- Lemmas of this claim. -/
import Derived.Test.YthflghdaejbdkaaGreatXcCyGH
import Derived.Test.YthflghdaejbdkaaGreatXcCyZD
import Derived.Test.YthflghdaejbdkaaGreatXcTbGood
namespace Go.Proofs.YthflghdaejbdkaaGreat
open _root_.Go.Proofs.Tryz (prog)
open Go.RowKit Go.Maps
set_option maxHeartbeats 6400000
set_option maxRecDepth 100000
set_option linter.unusedVariables false
section
variable {w0 w w':World} {l:List Asn} {b:Nat} {t:Tb} {kk:Nat} {ev qv wv:Value} {nx:Nat} {wl:List Bool}
theorem TrA.trT (h0:l[kk]?=some (TrA b t)) (hf:Fam w0 w l) (hm:kU w b ev qv wv nx wl t) (y z d:Value) (nx':Nat) (e:List Bool) (t':Tb) (h1:kU w' b y z d nx' e t')
  (h2:∀ x,trS b y z d x->trS b ev qv wv x\/w.heap.size<=x) (h3:aI (trS b ev qv wv) w w'):Fam w0 w' (l.set kk (TrA b t')):=by
 refine hf.turn kk h0 fun S hS=>?_;obtain ⟨h5,h7,h9,h6,h8,h4,hS⟩:=hS;obtain ⟨rfl,rfl,rfl⟩:=hm.same h4;exact ⟨trS b y z d,⟨y,z,d,nx',e,h1,fun k=>Iff.rfl⟩,fun k hk=>(h2 k hk).imp (fun x=>(hS k).2 x) id,h3.mono (fun k hk=>.inl ((hS k).2 hk))⟩
theorem TrA.aNy (h4:l[kk]?=some (TrA b t)) (hf:Fam w0 w l) (d:kU w b ev qv wv nx wl t) {w2:World} {v':Value} {q':List Int} (he:aK w2 w.heap.size v' q') (ho:Only [] w w2) :
  w2.cell? ⟨b,1,none⟩=some qv/\w2.frozen? ⟨b,1,none⟩=false/\kU (w2.setCell ⟨b,1,none⟩ v') b ev v' wv nx wl ⟨t.ents,q',t.ph,t.nx,t.fd⟩/\Fam w0 (w2.setCell ⟨b,1,none⟩ v') (l.set kk (TrA b ⟨t.ents,q',t.ph,t.nx,t.fd⟩)):=by
 have h5:b<w.heap.size:=by obtain ⟨U,hr⟩:=d.row;exact hr.lt
 have h0:=d.aN ho;have hs:Only [b] w2 (w2.setCell ⟨b,1,none⟩ v'):=(Only.refl _ w2).set (.inl (by simp)) _;obtain ⟨h1,h2,h3⟩:=h0.rest hs;have y:∀ g,v'.ownBlock=some g->w.heap.size<=g:=fun g z=>(he.own g z).1;have hT:kU (w2.setCell ⟨b,1,none⟩ v') b ev v' wv nx wl ⟨t.ents,q',t.ph,t.nx,t.fd⟩:=
  ⟨h0.row.imp fun U x=>x.set 1 _,h1,(he.base (Nat.zero_le _)).only hs (fun g z=>by have:=y g z;simp;omega),h3,d.now,d.two,fun g z=>⟨(d.n1 g z).1,(d.n1 g z).2.1,fun e=>by have:=y g e;have:=(d.ents.own g z).2;omega⟩,fun g z=>⟨by have:=y g z;omega,fun e=>by have:=y g z;have:=(d.wh.own g e).2;omega⟩,d.n3⟩
 refine ⟨h0.cells.2.1,h0.cells.2.2.2.2.2 1,hT,TrA.trT h4 hf d ev v' wv nx wl _ hT (fun x hx=>?_) ((ho.mono (G:=[b]) (by simp)).trans hs (by simp) |>.toP (fun x hx=>.inl (.inl (by simpa using hx))))⟩;rcases hx with hx|hx|hx|hx
 ·exact .inl (.inl hx)
 ·exact .inl (.inr (.inl hx))
 ·exact .inr (y x hx)
 exact .inl (.inr (.inr (.inr hx)))
theorem aEm (w:World) (h1:l[kk]?=some (TrA b t)) (hf:Fam w0 w l) (hl:t.q.length<=1000000):Calls prog 147 #[.pointer (some ⟨b,0,none⟩)] w (fun e w'=>e=.returned (.tuple #[.int .i64 t.take.1,.int .i64 t.take.2.1])/\Fam w0 w' (l.set kk (TrA b t.take.2.2))):=by
 refine aF fun R hR=>?_;obtain ⟨S0,⟨ev,qv,wv,nx,wl,ht,_⟩,_⟩:=hf.get kk h1;have HT:=aA ht;have HF:=aA hf;unfold Tb.take at hR
 cases e:t.q with
 | nil=>
  obtain ⟨z0,z1,z2,z3,z4,zf⟩:=ht.cells;rw [e] at hR;have y:=ht.q;rw [e] at y;obtain ⟨a,c,rfl⟩:=y.len;clear ht y hf;replace z1:w.cell? ⟨b,1,none⟩=some (.slice a 0 c):=z1;go_in;go_wp2;exact hR.out _ _ ⟨rfl,by show Fam w0 w (l.set kk (TrA b t));rw [xI h1];exact HF.out⟩
 | cons x rs=>
  rw [e] at hR hl;have y:=ht.q;rw [e] at y;obtain ⟨z0,z1,z2,z3,z4,zf⟩:=ht.cells;rcases y.form with ⟨_,h0⟩|⟨g,cap,rfl,_,x6,h5,hc⟩
  ·cases h0
  have x4:w.cell? ⟨g,0,none⟩=some (.int .i64 x):=hc 0 (by simp);have h8:Hid (∀ k,k<rs.length->w.cell? ⟨g,1+k,none⟩=some (.int .i64 (gI rs k))):=fun k hk=>by
   have h4:=hc (k+1) (by simp;omega);rw [Nat.add_comm 1 k,h4];simp [gI]
  obtain ⟨n,hn⟩:∃ z,z=rs.length:=⟨_,rfl⟩;have HN:=aA hn;have h9:n<=1000000:=by rw [hn];simp at hl;omega
  replace h5:n+1<=cap:=by rw [hn];simpa using h5
  replace z1:w.cell? ⟨b,1,none⟩=some (.slice (some ⟨g,0,none⟩) (n+1) cap):=by rw [hn];exact z1
  have h6:(w.alloc (.cells #[] 3)).cell? ⟨b,1,none⟩=some (.slice (some ⟨g,0,none⟩) (n+1) cap):=by rw [World.cell?_alloc_past _ _ _ (World.block_lt_of_cell? w _ z1)];exact z1
  have x1:((n:Int)+1 == 0)=false:=by rw [beq_eq_false_iff_ne];omega
  have x2:(0:Int)<(n:Int)+1:=by omega
  clear ht y hf hn hl hc z0 z2 z3 z4 zf
  by_cases h3:cap=1
  ·subst h3;obtain rfl:n=0:=by omega
   have x3:rs=[]:=List.eq_nil_of_length_eq_zero HN.out.symm;subst x3;replace z1:w.cell? ⟨b,1,none⟩=some (.slice (some ⟨g,0,none⟩) 1 1):=z1;replace h6:(w.alloc (.cells #[] 3)).cell? ⟨b,1,none⟩=some (.slice (some ⟨g,0,none⟩) 1 1):=h6;clear x1 x2;go_in;go_wp2_with (at_builtin;refine gQ rfl _ _ rfl w ((Only.refl _ _).alloc _) _ rfl (aK.made _) _ 0 _ [] rfl rfl (.inr ⟨_,_,rfl,rfl⟩) (by omega) ?c1)
   case c1=>
    intro g2 h7 w1 y ho;obtain ⟨y1,yf,_,d⟩:=TrA.aNy h1 HF.out HT.out y.out ho.out;have h2:=aA d;clear y ho d;go_wp2;exact hR.out _ _ ⟨rfl,h2.out⟩
  have x5:(cap=1)=False:=eq_false h3;have x7:(1:Int)<=((n+1:Nat):Int):=by omega
  have x8:((n+1:Nat):Int)<=cap:=by omega
  go_in;go_wp2_with (at_builtin;refine gQ rfl _ _ rfl w ((Only.refl _ _).alloc _) _ rfl (aK.made _) (some ⟨g,1,none⟩) n _ rs rfl HN.out.symm (.inl ⟨g,1,_,by rw [HN.out],h8.out⟩) h9 ?c1)
  case c1=>
   intro g2 h7 w1 y ho;obtain ⟨y1,yf,_,d⟩:=TrA.aNy h1 HF.out HT.out y.out ho.out;have h2:=aA d;clear y ho d;go_wp2;exact hR.out _ _ ⟨rfl,h2.out⟩
end
section
variable {w0 w w':World} {l:List Asn} {b:Nat} {c:Co} {x:GX5} {i:Nat} {m:Mk} {t:Tb}
theorem aHz (w:World) (d:Fam w0 w (G5 b c x ++ l)) (hx:x.ok c) (h:c.Okc):Calls prog 102 #[.pointer (some ⟨b,0,none⟩)] w (qK w0 l b c.take):=by
 refine aF fun R hR=>?_;have x1:=(bF.cells d).2.1;have z:=aEm w (kk:=2) (b:=x.ub) (t:=c.t) rfl d (by have:=h.tg.b.q20;omega);replace z:Calls prog 147 #[.pointer (some ⟨x.ub,0,none⟩)] w (fun e w'=>e=.returned (.tuple #[.int .i64 c.t.take.1,.int .i64 c.t.take.2.1])/\Fam w0 w' (G5 b c.take.2.2 x ++ l)):=z;have HX:Hid (x.ok c.take.2.2):=⟨hx.on,hx.mv,hx.m0,hx.mv2⟩;clear d hx h;have HR:Hid (∀ w',Fam w0 w' (G5 b c.take.2.2 x ++ l)->R (.returned (.tuple #[.int .i64 c.t.take.1,.int .i64 c.t.take.2.1])) w'):=fun w' h2=>hR.out _ _ ⟨rfl,x,HX.out,h2⟩;clear hR HX;generalize c.t.take.1=r1 at*;generalize c.t.take.2.1=r2 at*;generalize c.take.2.2=c2 at*;go_in;go_wp2_with fail;refine z.mono ?_;rintro e w2 ⟨rfl,y⟩;have F2:=aA y;clear z y;go_wp2_with fail;exact HR.out _ F2.out
theorem aRx (h:c.Okc) {n:Int} (z:(c.t.target n).2=0) (hz:(c.t.target n).1=0):c.target n=(0,0,c):=by
 have y:(c.m.M.ob 0).isSome=false:=by
  cases e:(c.m.M.ob 0).isSome with
  | false=>rfl
  | true=>have:=h.hf.ok.inR e;omega
 have d:c.hid 0=false:=by
  unfold Co.hid;split
  ·unfold Mk.isW;rw [y];rfl
  refine decide_eq_false fun e=>?_;have:=h.su 0 e;rw [y] at this;cases this
 unfold Co.target;rw [if_neg (fun e=>e z),hz,if_neg (by rw [d];decide)];have hs:c.m.bI 0=c.m:=by
  unfold Mk.bI;rw [if_neg (fun e=>by have:=(Mk.kL.1 e).1;exact this rfl)]
 rw [hs];split<;>rfl
theorem aPJ (h:c.Okc) {n:Int} (y:(c.t.target n).2=0) (z:(c.t.target n).1≠0):(c.m.M.ob (c.t.target n).1).isSome=true/\(c.ph≠2->c.hid (c.t.target n).1=false):=by
 unfold Tb.target at y z ⊢;split at y
 ·cases y
 rename_i d;rw [if_neg d] at z ⊢;refine ⟨h.tg.b.us _ (by omega) z,fun e=>?_⟩;unfold Co.hid;rw [if_neg e];exact decide_eq_false (h.st _ (by omega))
theorem aEN (w:World) (hf:Fam w0 w (G5 b c x ++ l)) (hx:x.ok c) (h:c.Okc) (n:Int):Calls prog 101 #[.pointer (some ⟨b,0,none⟩),.int .i64 n] w (qK w0 l b (c.target n)):=by
 refine aF fun R z=>?_;have h3:=bF.cells hf;have x1:=h3.2.1;have x3:=h3.2.2.2.1;obtain ⟨ev,qv,wv,nx,wl,ht⟩:=G5.tr hf;have ct:=aCw w ht n;have HX:=aA hx
 by_cases he:(c.t.target n).2=0
 ·by_cases hz:(c.t.target n).1=0
  ·rw [aRx h he hz] at z;rw [he,hz] at ct;have F0:=aA hf;clear hf hx h ht he hz h3 x3;go_in;go_wp2_with fail;refine ct.mono ?_;rintro e _ ⟨rfl,rfl⟩;clear ct;go_wp2;exact z.out _ _ ⟨rfl,x,HX.out,F0.out⟩
  obtain ⟨hu,hh⟩:=aPJ h he hz;have hr:=h.hf.ok.inR hu;rw [he] at ct;have h0:c.target n=if c.hid (c.t.target n).1=true then (0,0,c) else ((c.t.target n).1,0,if c.ph=1 then { c with m:=c.m.bI (c.t.target n).1 } else c):=by
   unfold Co.target;rw [if_neg (fun e=>e he)]
  rw [h0] at z;obtain ⟨y,hy⟩:∃ y,y=(c.t.target n).1:=⟨_,rfl⟩;rw [<-hy] at z hu hh hr ct hz;have x8:(y == 0)=false:=by simpa using hz
  clear h0 hy he hz ht h3
  by_cases h1:c.ph=1
  ·rw [hh (by omega)] at z;have d:x.on=true:=hx.on.trans (bQ.2 (.inl h1));have cs:=aAP w (G5.t2 (b:=b) (c:=c) (x:=x) (l:=l)) (G5.toR d hf) (h.mo (.inl h1)) y;rw [G5.rl d] at cs;have x2:=G5.m2 d hf;have H1:=aA h1;have HR:Hid (∀ w',Fam w0 w' (G5 b (c.pI (c.m.bI y)) x ++ l)->R (.returned (.tuple #[.int .i64 y,.int .i64 0])) w'):=fun w' h2=>z.out _ _ (by
    rw [if_neg (by decide),if_pos H1.out];exact ⟨rfl,x,⟨HX.out.on,HX.out.mv,HX.out.m0,HX.out.mv2⟩,h2⟩)
   have h6:Hid (∀ wx,Fam w0 wx (G5 b (c.pI (c.m.bI y)) x ++ l)->wx.cell? ⟨b,3,none⟩=some (.int .i64 1)):=fun wx hwx=>by
    have:=(bF.cells hwx).2.2.2.1;have h9:(c.pI (c.m.bI y)).ph=1:=H1.out;rw [h9] at this;exact this
   rw [h1] at x3;clear hf hx h d h1 hh hu hr z;generalize c.m.jS y=se at*;go_in;go_wp2_with fail;refine ct.mono ?_;rintro e _ ⟨rfl,rfl⟩;clear ct;go_wp2_with fail;refine cs.mono ?_;rintro e w2 ⟨rfl,h5⟩;have F2:=aA h5;have y3:=h6.out w2 h5;clear cs h5 x1 x2 x3;go_wp2_with fail;exact HR.out _ F2.out
  by_cases h2:c.ph=2
  ·have d:x.on=true:=hx.on.trans (aKX h2);have x2:=G5.m2 d hf;obtain ⟨tg,tc,v,T,hg⟩:=RL.mk (G5.t2 (b:=b) (c:=c) (x:=x) (l:=l)) (G5.toR d hf);obtain ⟨U,h4⟩:=hg.row;have k1:=h4.cell 1 rfl;obtain ⟨k,rfl⟩:∃ k:Nat,y=(k:Int):=⟨y.toNat,by omega⟩;have x5:(k:Int)<193:=by omega
   have x7:(0:Int)<=(k:Int):=by omega
   obtain ⟨tb,tq,x4,kt⟩:=hg.tint.read.at (k:=k) (by rw [hg.tl];omega)
   cases x4
   rw [Nat.zero_add,hg.tv k (by omega)] at kt;have hw:c.hid (k:Int)=decide (c.m.col (k:Int)=0):=by unfold Co.hid;rw [if_pos h2];unfold Mk.isW;rw [hu];rfl
   have h7:=aA ((h.mo (.inr h2)).rg (k:Int));rw [hw,if_neg h1] at z;have F0:=aA hf;rw [h2] at x3;clear hf hx h d h1 h2 hh hu hr hg h4 hw;generalize c.m.col (k:Int)=kc at*;have h8:=h7.out;rcases h8 with e0|e0|e0
   all_goals
    rw [e0] at kt z;go_in;go_wp2_with fail;refine ct.mono ?_;rintro e _ ⟨rfl,rfl⟩;clear ct;go_wp2;exact z.out _ _ ⟨rfl,x,HX.out,F0.out⟩
  rw [hh h2,if_neg h1] at z;have F0:=aA hf;have p1:((c.ph:Int) == 1)=false:=by rw [beq_eq_false_iff_ne];omega
  have p2:((c.ph:Int) == 2)=false:=by rw [beq_eq_false_iff_ne];omega
  replace z:Hid (∀ e w',qK w0 l b (y,0,c) e w'->R e w'):=z;have HR:Hid (∀ w',Fam w0 w' (G5 b c x ++ l)->R (.returned (.tuple #[.int .i64 y,.int .i64 0])) w'):=fun w' h2=>z.out _ _ ⟨rfl,x,HX.out,h2⟩;clear hf hx h h1 h2 hh hu hr z HX;generalize c.ph=ph at*;go_in;go_wp2_with fail;refine ct.mono ?_;rintro e _ ⟨rfl,rfl⟩;clear ct;go_wp2_with fail;exact HR.out _ F0.out
 have h0:c.target n=(0,(c.t.target n).2,c):=by unfold Co.target;rw [if_pos he]
 rw [h0] at z;have x6:((c.t.target n).2 != 0)=true:=by simpa using he
 have F0:=aA hf;clear hf hx h ht he h3 x3 h0;generalize (c.t.target n).2=e2 at*;generalize (c.t.target n).1=e1 at*;go_in;go_wp2_with fail;refine ct.mono ?_;rintro e _ ⟨rfl,rfl⟩;clear ct;go_wp2;exact z.out _ _ ⟨rfl,x,HX.out,F0.out⟩
theorem QL.last (t':Tb) (r:Nat):QL ((G5 b c x ++ l) ++ [GkA r x.q (fun _=>0) []]) 0 (G5 b c x ++ l).length 2 x.q r x.ub (Mk.start c.m.M) t'=(G5 b (c.dZ t') x ++ l) ++ [GkA r x.q (fun _=>0) []]:=by
 have y:(G5 b c x ++ l).length=5+l.length:=by rw [List.length_append];rfl
 have z:((G5 b c x ++ l).set 2 (TrA x.ub t')).length=5+l.length:=by rw [List.length_set,y]
 unfold QL RL;rw [List.set_append_left _ _ (by omega),List.set_append_left _ _ (by omega),List.set_append_right _ _ (by rw [List.length_set,z,y];omega),List.length_set,z,y,Nat.sub_self];rfl
theorem aHC (w:World) (hf:Fam w0 w (G5 b c x ++ l)) (hx:x.ok c) (h:c.Okc) (k y g:Int):Calls prog 100 #[.pointer (some ⟨b,0,none⟩),.int .i64 k,.int .i64 y,.int .i64 g] w (qK w0 l b (c.refer k y g)):=by
 refine aF fun R hR=>?_;have h0:=bF.cells hf;have x3:=h0.2.2.2.1;have F0:=aA hf;have HX:=aA hx
 by_cases hk:k<1\/3<k
 ·have d:c.refer k y g=(0,1,c):=by
   have hz:∀ z,c.t.add c.m k z g=(0,1,c.t):=fun z=>by unfold Tb.add;rw [if_pos hk]
   unfold Co.refer
   by_cases h2:c.ph=2
   ·rw [if_pos h2,if_pos hk]
   rw [if_neg h2,hz]
  rw [d] at hR;clear hf hx h d h0 x3
  by_cases k1:k<1
  ·clear hk;go_in;go_wp2;exact hR.out _ _ ⟨rfl,x,HX.out,F0.out⟩
  have k3:3<k:=by omega
  clear hk;go_in;go_wp2;exact hR.out _ _ ⟨rfl,x,HX.out,F0.out⟩
 have k1:¬ k<1:=by omega
 have k3:¬ 3<k:=by omega
 by_cases h2:c.ph=2
 ·have d:c.refer k y g=(0,13,c):=by unfold Co.refer;rw [if_pos h2,if_neg hk]
  rw [d] at hR;rw [h2] at x3;clear hf hx h d h0 hk h2;go_in;go_wp2;exact hR.out _ _ ⟨rfl,x,HX.out,F0.out⟩
 have x2:((c.ph:Int) == 2)=false:=by rw [beq_eq_false_iff_ne];omega
 have h7:=h.t0 h2;have ch:=rW w hf hx h y;have d:c.refer k y g=((c.t.add c.m k (if c.hid y then 0 else y) g).1,(c.t.add c.m k (if c.hid y then 0 else y) g).2.1,{ c with t:=(c.t.add c.m k (if c.hid y then 0 else y) g).2.2 }):=by unfold Co.refer;rw [if_neg h2]
 rw [d] at hR
 cases hg:c.gone y with
 | true=>
  have h6:c.t.add c.m k (if c.hid y then 0 else y) g=(0,3,c.t):=by
   have hz:(c.m.M.ob (if c.hid y then 0 else y)).isSome=false:=by
    cases e:c.hid y with
    | true=>
     show (c.m.M.ob 0).isSome=false
     cases e2:(c.m.M.ob 0).isSome with
     | false=>rfl
     | true=>have:=h.hf.ok.inR e2;omega
    | false=>
     unfold Co.gone at hg;rw [e,Bool.or_false] at hg;show (c.m.M.ob y).isSome=false;simpa using hg
   unfold Tb.add;rw [if_neg hk,if_neg (fun e=>e h7),if_pos hz]
  rw [h6] at hR;rw [hg] at ch;replace hR:Hid (∀ e w',qK w0 l b (0,3,c) e w'->R e w'):=hR;have HR:Hid (∀ w',Fam w0 w' (G5 b c x ++ l)->R (.returned (.tuple #[.int .i64 0,.int .i64 3])) w'):=fun w' h2=>hR.out _ _ ⟨rfl,x,HX.out,h2⟩;clear hf hx h d h0 hk h2 h7 hg h6 hR HX;generalize c.ph=ph at*;go_in;go_wp2_with fail;refine ch.mono ?_;rintro e w1 ⟨rfl,ho⟩;have F1:=aA (F0.out.aN ho);clear ch ho F0;go_wp2_with fail;exact HR.out _ F1.out
 | false=>
  have h8:c.hid y=false:=by
   unfold Co.gone at hg
   cases e:c.hid y with
   | true=>rw [e,Bool.or_true] at hg;cases hg
   | false=>rfl
  rw [h8] at hR;replace hR:Hid (∀ e w',qK w0 l b ((c.t.add c.m k y g).1,(c.t.add c.m k y g).2.1,c.dZ (c.t.add c.m k y g).2.2) e w'->R e w'):=hR;rw [hg] at ch;have HB:Hid (∀ wx,Fam w0 wx (G5 b c x ++ l)->wx.cell? ⟨b,0,none⟩=some (.pointer (some ⟨x.q,0,none⟩))/\Calls prog 181 #[.pointer (some ⟨x.q,0,none⟩),.slice none 0 0] wx (fun e w'=>∃ r,e=.returned (.tuple #[.pointer (some ⟨r,0,none⟩),.int .i64 0])/\Fam w0 w' ((G5 b c x ++ l) ++ [GkA r x.q (fun _=>0) []]))):=fun wx hwx=>by
   refine ⟨(bF.cells hwx).1,?_⟩;have h9:¬ c.m.M.fJ []:=fun ⟨y,hy,_⟩=>by simp at hy
   refine (aAS wx hwx (i:=0) rfl none 0 0 [] rfl (by omega) (.inr ⟨none,0,rfl,rfl⟩) (fun _ _ _ _=>.inr ⟨none,0,rfl,rfl⟩) h.hf).mono ?_;rintro e w' (⟨hb,_⟩|⟨_,r,he,x1⟩)
   ·exact absurd hb h9
   have hq:=QL.last (b:=b) (c:=c) (x:=x) (l:=l) c.t r;have e1:QL ((G5 b c x ++ l) ++ [GkA r x.q (fun _=>0) []]) 0 (G5 b c x ++ l).length 2 x.q r x.ub (Mk.start c.m.M) c.t=RL ((G5 b c x ++ l) ++ [GkA r x.q (fun _=>0) []]) 0 (G5 b c x ++ l).length x.q r (Mk.start c.m.M):=by
    unfold QL;congr 1
   refine ⟨r,he,?_⟩;have h3:Fam w0 w' (RL ((G5 b c x ++ l) ++ [GkA r x.q (fun _=>0) []]) 0 (G5 b c x ++ l).length x.q r (Mk.start c.m.M)):=x1;rw [<-e1,hq] at h3;exact h3
  have HA:Hid (∀ wx r,Fam w0 wx ((G5 b c x ++ l) ++ [GkA r x.q (fun _=>0) []])->wx.cell? ⟨b,1,none⟩=some (.pointer (some ⟨x.ub,0,none⟩))/\Calls prog 146 #[.pointer (some ⟨x.ub,0,none⟩),.pointer (some ⟨r,0,none⟩),.int .i64 k,.int .i64 y,.int .i64 g] wx (fun e w'=>e=.returned (.tuple #[.int .i64 (c.t.add c.m k y g).1,.int .i64 (c.t.add c.m k y g).2.1])/\Fam w0 w' (G5 b (c.dZ (c.t.add c.m k y g).2.2) x ++ l))):=fun wx r hwx=>by
   refine ⟨(bF.cells hwx.pop).2.1,?_⟩;have h5:(G5 b c x ++ l).length=5+l.length:=by rw [List.length_append];rfl
   have T3:Three ((G5 b c x ++ l) ++ [GkA r x.q (fun _=>0) []]) 0 (G5 b c x ++ l).length 2:=⟨⟨by simp [G5],by simp,by omega⟩,by simp [G5],by decide,by omega⟩;have h4:Fam w0 wx (QL ((G5 b c x ++ l) ++ [GkA r x.q (fun _=>0) []]) 0 (G5 b c x ++ l).length 2 x.q r x.ub (Mk.start c.m.M) c.t):=by rw [QL.last];exact hwx
   have:=aJk wx T3 h4 k y g;have ea:∀ (k y g:Int),c.t.add (Mk.start c.m.M) k y g=c.t.add c.m k y g:=fun _ _ _=>rfl;rw [ea,QL.last] at this;exact this.mono fun e w' ⟨h1,h2⟩=>⟨h1,h2.pop⟩
  have HR:Hid (∀ w',Fam w0 w' (G5 b (c.dZ (c.t.add c.m k y g).2.2) x ++ l)->R (.returned (.tuple #[.int .i64 (c.t.add c.m k y g).1,.int .i64 (c.t.add c.m k y g).2.1])) w'):=fun w' h2=>hR.out _ _ ⟨rfl,x,⟨HX.out.on,HX.out.mv,HX.out.m0,HX.out.mv2⟩,h2⟩;clear hf hx h d h0 hk h2 h7 hg h8 hR HX;generalize (c.t.add c.m k y g).1=a1 at*;generalize (c.t.add c.m k y g).2.1=a2 at*;generalize c.dZ (c.t.add c.m k y g).2.2=c2 at*;generalize c.ph=ph at*;go_in;go_wp2_with fail;refine ch.mono ?_;rintro e w1 ⟨rfl,ho⟩;obtain ⟨z0,cb⟩:=HB.out w1 (F0.out.aN ho);clear ch ho F0 HB x3;go_wp2_with fail;refine cb.mono ?_;rintro e w2 ⟨r,rfl,h3⟩;obtain ⟨z1,ca⟩:=HA.out w2 r h3;clear cb h3 HA z0;go_wp2_with fail;refine ca.mono ?_;rintro e w3 ⟨rfl,h4⟩;have F3:=aA h4;clear ca h4;go_wp2_with fail;exact HR.out _ F3.out
theorem aET (w:World) (hf:Fam w0 w (G5 b c x ++ l)) (hx:x.ok c) (h:c.Okc) (a:Option Addr) (n cp:Nat) (y:List Int) (hl:y.length=n) (hn:n<=1000000) (hr:∀ wx,Fam w0 wx l->pR wx (.slice a n cp) y) :
  Calls prog 98 #[.pointer (some ⟨b,0,none⟩),.slice a n cp] w (aQX w0 l b (c.begin y)):=by
 refine aF fun R hR=>?_;have h3:=bF.cells hf;have x0:=h3.1;have x3:=h3.2.2.2.1;have F0:=aA hf;have HX:=aA hx;unfold Co.begin at hR
 by_cases h4:192<y.length
 ·rw [if_pos h4] at hR;have h1:(192:Int)<n:=by omega
  clear h4 hr h hl hf hx h3 x3;go_in;go_wp2;exact hR.out _ _ ⟨rfl,x,HX.out,F0.out⟩
 rw [if_neg h4] at hR;have h1:¬ (192:Int)<n:=by omega
 by_cases hp:c.ph≠0
 ·rw [if_pos hp] at hR;have x5:((c.ph:Int) != 0)=true:=by simpa using hp
  have HR:Hid (∀ w',Fam w0 w' (G5 b c x ++ l)->R (.returned (.int .i64 13)) w'):=fun w' h2=>hR.out _ _ ⟨rfl,x,HX.out,h2⟩;clear h4 hr h hl hf hx hp h3 HX hR;generalize c.ph=ph at*;go_in;go_wp2_with fail;exact HR.out _ F0.out
 rw [if_neg hp] at hR;have h7:c.ph=0:=Classical.not_not.1 hp;rw [h7] at x3;have h6:x.on=false:=hx.on.trans (aAZ (by omega) (by omega));have x2:(G5 b c x ++ l).length=5+l.length:=by rw [List.length_append];rfl
 have cb:=aAS w hf (i:=0) rfl a n cp y hl hn (hr w (Fam.rest hf)) (fun r w' m' h9=>hr w' (by
  refine h9.selC (fun k=>5+k) (fun k Y hk=>?_) (fun j k _ _ hne e=>hne (by omega));have x4:=(List.getElem?_eq_some_iff.1 hk).1;have h5:(G5 b c x).length=5:=rfl;unfold RL;rw [List.getElem?_set_ne (by omega),List.getElem?_set_ne (by omega),List.getElem?_append_left (by omega),List.getElem?_append_right (by omega),show 5+k - (G5 b c x).length=k by omega];exact hk)) h.hf
 have h8:=aA hl;have x1:=aA h6;clear hr h hl hf hx hp h3 h6 h7;go_in;go_wp2_with fail;refine cb.mono ?_;rintro e w1 (⟨d,rfl,h0⟩|⟨d,r2,rfl,h0⟩)
 ·rw [if_pos d] at hR;have F1:=aA h0;clear cb h0 d F0;go_wp2;exact hR.out _ _ ⟨rfl,x,HX.out,F1.out⟩
 rw [if_neg d] at hR;have hM:((Mk.start c.m.M).bC y).M=c.m.M:=Mk.kN _ _;have F2:Hid (Fam w0 w1 ([GH x.q ((Mk.start c.m.M).bC y).M,GkA r2 x.q ((Mk.start c.m.M).bC y).col ((Mk.start c.m.M).bC y).list,TrA x.ub c.t,dG x.sv c.sw,eG b 99 (bF b c x)] ++ l)):=by
  unfold RL at h0;rw [List.set_append_left _ _ (by omega),List.set_append_right _ _ (by rw [List.length_set];omega),List.length_set,Nat.sub_self] at h0;exact h0.aPL
 have z:=F2.out.row 4 rfl;have x6:=z.cell 2 rfl;have x7:=z.free 2;have x8:=z.cell 3 rfl;have x9:=z.free 3;have y2:=z.cell 7 rfl;have y3:=z.free 7;have y0:=z.cell 4 rfl;have y1:=z.free 4;have F5:Hid (Fam w0 ((((w1.setCell ⟨b,2,none⟩ (.pointer (some ⟨r2,0,none⟩))).setCell ⟨b,3,none⟩ (.int .i64 1)).setCell ⟨b,7,none⟩ (.int .i64 0)).setCell ⟨b,4,none⟩ (.int .i64 (-1 - (n:Int)))) (G5 b { c with m:=(Mk.start c.m.M).bC y,ph:=1,cr:=-1 - (n:Int),mv:=0 } { x with r:=r2,on:=true,mv:=0 } ++ l)):=
  (((F2.out.bV 4 rfl 2 (.pointer (some ⟨r2,0,none⟩))).bV 4 rfl 3 (.int .i64 1)).bV 4 rfl 7 (.int .i64 0)).bV 4 rfl 4 (.int .i64 (-1 - (n:Int)))
 clear cb h0 d hM z F2 F0;go_wp2;exact hR.out _ _ ⟨rfl,{ x with r:=r2,on:=true,mv:=0 },⟨rfl,fun e=>(by cases e),fun _ _=>rfl,Nat.zero_le _⟩,by rw [h8.out];exact F5.out⟩
theorem aKm (w:World) (n r:Int) (h:n<1\/24<n\/r<0\/100<r):Calls prog 36 #[.int .i64 n,.int .i64 r] w (fun e w'=>e=.returned (.tuple #[.pointer none,.int .i64 1])/\Only [] w w'):=by
 refine aF fun R hR=>?_
 by_cases d:n<1\/24<n
 ·have y:=aMI w n d;clear h d;go_in;go_wp2_with fail;refine y.mono ?_;rintro e _ ⟨rfl,rfl⟩;go_wp2;exact hR.out _ _ ⟨rfl,Only.refl _ _⟩
 obtain ⟨k,rfl⟩:∃ k:Nat,n=(k:Int):=⟨n.toNat,by omega⟩;have y:=aDt w k (by omega) (by omega)
 by_cases h1:r<0
 ·clear h d;go_in;go_wp2_with fail;refine y.mono ?_;rintro e w1 ⟨hb,L,X,rfl,_,_,z⟩;have HO:=aA z;clear y z;go_wp2;exact hR.out _ _ ⟨rfl,HO.out⟩
 have h2:100<r:=by omega
 clear h d;go_in;go_wp2_with fail;refine y.mono ?_;rintro e w1 ⟨hb,L,X,rfl,_,_,z⟩;have HO:=aA z;clear y z;go_wp2;exact hR.out _ _ ⟨rfl,HO.out⟩
theorem aHD (w:World) (hf:Fam w0 w l) (n:Nat) (r:Int) (h1:1<=n) (d:n<=24) (hr:0<=r/\r<=100):Calls prog 36 #[.int .i64 (n:Int),.int .i64 r] w (fun e w'=>∃ b,e=.returned (.tuple #[.pointer (some ⟨b,0,none⟩),.int .i64 0])/\Fam w0 w' (l ++ [GoA b (Co.new n r)])):=by
 refine aF fun R hR=>?_;have ch:=aDt w n h1 d;have HF:=aA hf;have h0:Hid ((Hp.new n).OkF):=Hp.OkF.new h1 d;have r1:¬ r<0:=by omega
 have r2:¬ 100<r:=by omega
 clear hf h1 d hr;go_in;go_wp2_with fail;refine ch.mono ?_;rintro e y ⟨hb,L,X,rfl,hp,hL,ho⟩;have F1:Hid (Fam w0 y (l ++ [GH hb (Hp.new n)] ++ [NoA])):=(HF.out.add (aOW hp h0.out.ok hL ho)).aQI;have ct:=aJh y;clear ch hp hL ho HF;go_wp2_with fail;refine ct.mono ?_;rintro e z ⟨rfl,rfl⟩;have F3:Hid (Fam w0 (y.alloc (.cells #[.slice none 0 0,.slice none 0 0,.int .i64 0,.int .i64 0,.slice none 0 0] 52)) (l ++ [GH hb (Hp.new n)] ++ [NoA] ++ [TrA y.heap.size Tb.new])):=F1.out.add (aNY y);obtain ⟨t,ht⟩:∃ t,t=y.heap.size:=⟨_,rfl⟩;rw [<-ht] at F3 ⊢;generalize y.alloc (.cells #[.slice none 0 0,.slice none 0 0,.int .i64 0,.int .i64 0,.slice none 0 0] 52)=z at*;have F4:=F3.out.iK (v:=.slice none 0 0) (m:=[]) (Only.refl [] z) (aK.nil z z.heap.size);have F5:Hid (Fam w0 (z.alloc (.cells #[.pointer (some ⟨hb,0,none⟩),.pointer (some ⟨t,0,none⟩),.pointer none,.int .i64 0,.int .i64 0,.int .i64 r,.int .i64 (n:Int),.int .i64 0,.slice none 0 0] 99)) (G5 z.heap.size (Co.new n r) ⟨hb,0,t,.slice none 0 0,false,0⟩ ++ l)):=by
  have f5:=F4.aBq 99 [.pointer (some ⟨hb,0,none⟩),.pointer (some ⟨t,0,none⟩),.pointer none,.int .i64 0,.int .i64 0,.int .i64 r,.int .i64 (n:Int),.int .i64 0,.slice none 0 0];exact f5.aOr
 clear ct F1 F3 F4 ht;go_wp2;exact hR.out _ _ ⟨z.heap.size,rfl,GoA.born ⟨rfl,fun e=>(by cases e),fun e=>(by cases e),Nat.zero_le _⟩ F5.out⟩
end
theorem aKp {c:Co} (y:c.ph=0) (n:Int):c.give n=(0,c):=by unfold Co.give;rw [if_pos y]
theorem iZ {c:Co} (y:c.ph=0):c.aH 0 []=((c.m.M.aH 0 []).1,(c.m.M.aH 0 []).2.1,{ c with m:=c.m.put (c.m.M.aH 0 []).2.2 }):=by
 unfold Co.aH;rw [if_neg (by simp),aKp y];show c.newObj 0 []=_;unfold Co.newObj;rw [if_neg (by rw [bQ];omega)]
theorem aJf {c:Co} (hm:c.m=Mk.start aPw) (ht:c.t=Tb.new) (hp:c.ph=0) (hr:c.rate=0) (hg:c.pages=2) (hs:c.sw=[]):c.begin [1]=(0,aDU):=by
 have z:¬ aPw.fJ [1]:=by
  rintro ⟨y,hy,_,h⟩;have d:y=1:=by simpa using hy
  have:=aPQ;rw [<-d,h] at this
  cases this
 unfold Co.begin;rw [if_neg (by simp),if_neg (fun e=>e hp),hm,if_neg (show ¬ (Mk.start aPw).M.fJ [1] from z)];obtain ⟨m,t,ph,cr,h1,h0,sw,mv⟩:=c
 cases hm
 cases ht
 cases hr
 cases hg
 cases hs
 rfl
theorem aGB (h:aDU.Okc):aDU.finish=((6:Int),Co.costs 6 aDU,0,Co.steps 6 aDU):=by
 have y:=Co.aEV h qR.2.1 qR.1;unfold Co.finish;rw [if_neg (by show ¬ (1:Nat)=0;decide),<-y];rfl
theorem aDJ (w:World):Calls prog 32 #[] w (fun e w'=>e=.returned (.bool true)/\Only [] w w'):=by
 refine aF fun R hR=>?_;have c1:=aDM w (Fam.nil w) 2 0 (by omega) (by omega) ⟨Int.le_refl 0,by decide⟩;have K0:Hid ((Co.new 2 0).Ok):=Co.Ok.new (by omega) (by omega) ⟨Int.le_refl 0,by decide⟩;go_in;go_wp2_with fail;refine c1.mono ?_;rintro e w1 ⟨b,rfl,h6⟩;have F1:Hid (Fam w w1 [CoA b (Co.new 2 0)]):=h6;have c2:=jC w1 F1.out (i:=0) rfl K0.out 0 none 0 0 [] rfl (by omega) (fun wx _=>.inl ⟨rfl,rfl⟩);have K1:=aA (K0.out.aH 0 []);obtain ⟨d,hd⟩:∃ d,d=((Co.new 2 0).aH 0 []).2.2:=⟨_,rfl⟩;have HD:Hid (d={ Co.new 2 0 with m:=(Co.new 2 0).m.put ((Hp.new 2).aH 0 []).2.2 }):=by show _=_;rw [hd,iZ rfl];rfl
 rw [<-hd] at c2 K1;rw [show ((Co.new 2 0).aH 0 []).1=1 by rw [iZ rfl];exact aCe.1] at c2;clear c1 h6 hd;generalize ((Co.new 2 0).aH 0 []).2.1=e1 at*;go_wp2_with fail;refine c2.mono ?_;rintro e w2 ⟨rfl,h7⟩;have F2:Hid (Fam w w2 [CoA b d]):=h7;have h3:d.ph=0:=by rw [HD.out];rfl
 have h2:d.m.M=((Hp.new 2).aH 0 []).2.2:=by rw [HD.out];rfl
 have c3:=jC w2 F2.out (i:=0) rfl K1.out 0 none 0 0 [] rfl (by omega) (fun wx _=>.inl ⟨rfl,rfl⟩);have K2:=aA (K1.out.aH 0 []);obtain ⟨d2,h1⟩:∃ d2,d2=(d.aH 0 []).2.2:=⟨_,rfl⟩;have h5:Hid (d2={ d with m:=d.m.put (d.m.M.aH 0 []).2.2 }):=by show _=_;rw [h1,iZ h3]
 rw [<-h1] at c3 K2;rw [show (d.aH 0 []).1=2 by rw [iZ h3,h2];exact aCe.2.2.1] at c3;have HB:Hid (d2.begin [1]=(0,aDU)):=by
  have hm:d2.m=Mk.start aPw:=by rw [h5.out];show d.m.put _=_;rw [h2,HD.out];rfl
  refine aJf hm ?_ ?_ ?_ ?_ ?_<;>(rw [h5.out,HD.out];rfl)
 clear c2 h7 h1 h3 h2 F1;generalize (d.aH 0 []).2.1=e2 at*;go_wp2_with fail;refine c3.mono ?_;rintro e z ⟨rfl,h9⟩;have F3:Hid (Fam w z [CoA b d2]):=h9;have F4:Hid (Fam w (z.alloc (.cells #[.int .i64 1] 3)) [CoA b d2,eG z.heap.size 3 [.int .i64 1]]):=F3.out.addRow 3 [.int .i64 1];clear c3 h9 F2;have c4:=uV _ F4.out (i:=0) rfl K2.out.k (some ⟨z.heap.size,0,none⟩) 1 1 [1] rfl (by omega) (fun y hy=>by simp at hy;rw [hy];exact dL (by decide)) (fun wx hx=>.inl ⟨z.heap.size,0,1,rfl,fun k hk=>by
  have h0:k=0:=by simp at hk;omega
  subst h0;exact (hx.row 1 rfl).cell 0 rfl⟩)
 rw [HB.out] at c4;have K3:Hid (aDU.Ok):=by have:=K2.out.begin [1];rw [HB.out] at this;exact this
 go_wp2_with fail;refine c4.mono ?_;rintro e w5 ⟨rfl,x1⟩;have F5:Hid (Fam w w5 [CoA b aDU,eG z.heap.size 3 [.int .i64 1]]):=x1;have c5:=qC w5 F5.out (i:=0) rfl K3.out.k;rw [aGB K3.out.k] at c5;have y1:=Co.aBT K3.out.k 6;clear c4 x1 F4 F3;generalize Co.costs 6 aDU=cs at*;go_wp2_with fail;refine c5.mono ?_;rintro e w6 ⟨rfl,x2⟩;have F6:Hid (Fam w w6 [CoA b (Co.steps 6 aDU),eG z.heap.size 3 [.int .i64 1]]):=x2;have x8:Hid ((Co.steps 6 aDU).ph=0):=qR.1;have x7:Hid ((Co.steps 6 aDU).m.M.handles=[1]):=qR.2.2;generalize Co.steps 6 aDU=d6 at*;have c6:=aKR w6 F6.out (i:=0) rfl;clear c5 x2 F5;go_wp2_with fail;refine c6.mono ?_;rintro e w7 ⟨q,rfl,x9,x3⟩;have F7:Hid (Fam w w7 [CoA b d6,eG z.heap.size 3 [.int .i64 1],PH q d6.m.M]):=x3;obtain ⟨x4,L7,X7,x6⟩:=F7.out.ph 2 rfl;have c7:=yX w7 x6 x4;rw [x7.out] at c7;clear c6 x3 x9 F6 x4 x6;go_wp2_with fail;refine c7.mono ?_;rintro e w8 ⟨v8,rfl,h4,x5⟩;have F8:=aA (F7.out.aN x5);obtain ⟨va,vc,y0⟩:=h4.len;subst y0;obtain ⟨vb,vo,rfl,h8⟩:=h4.read.at (k:=0) (by simp);replace h8:w8.cell? ⟨vb,vo,none⟩=some (.int .i64 1):=by rw [Nat.add_zero] at h8;exact h8
 have c8:=lZ w8 F8.out (i:=0) rfl;rw [x8.out] at c8;clear c7 h4 x5 F7;go_wp2_with fail;refine c8.mono ?_;rintro e _ ⟨rfl,rfl⟩;have HE:=aA F8.out.only;clear c8 F8;go_wp2;exact hR.out _ _ ⟨rfl,HE.out⟩
section
variable {w0 w:World} {l:List Asn} {b:Nat} {c c':Co} {x:GX5} {i:Nat}
theorem GoA.wrap {f:FuncId} {y:Array Value} {r:Value} (hf:Fam w0 w l) (hi:l[i]?=some (GoA b c)) (hc:∀ x:GX5,x.ok c->Fam w0 w (G5 b c x ++ l.set i NoA)->Calls prog f y w (fun e w'=>e=.returned r/\∃ z:GX5,z.ok c'/\Fam w0 w' (G5 b c' z ++ l.set i NoA))) :
  Calls prog f y w (fun e w'=>e=.returned r/\Fam w0 w' (l.set i (GoA b c'))):=by
 obtain ⟨x,hx,h0⟩:=GoA.open hf hi;exact (hc x hx h0).mono fun e w' ⟨he,z,h1,d⟩=>⟨he,GoA.close h1 d (List.getElem?_eq_some_iff.1 hi).1⟩
theorem aJn (w:World) (z:Fam w0 w l) (d:l[i]?=some (GoA b c)) (h:c.Okc):Calls prog 95 #[.pointer (some ⟨b,0,none⟩)] w (fun e w'=>e=.returned (.tuple #[.int .i64 (c.step).1,.int .i64 (c.step).2.1])/\Fam w0 w' (l.set i (GoA b (c.step.2.2)))):=
 GoA.wrap z d fun x hx y=>oQ w y hx h
theorem xW (w:World) (z:Fam w0 w l) (d:l[i]?=some (GoA b c)) (h:c.Okc):Calls prog 97 #[.pointer (some ⟨b,0,none⟩)] w (fun e w'=>e=.returned (.tuple #[.int .i64 c.finish.1,.int .i64 c.finish.2.1,.int .i64 c.finish.2.2.1])/\Fam w0 w' (l.set i (GoA b (c.finish.2.2.2)))):=
 GoA.wrap z d fun x hx y=>aER w y hx h
theorem aGR (w:World) (z:Fam w0 w l) (d:l[i]?=some (GoA b c)) (h:c.Ok) (n:Int):Calls prog 96 #[.pointer (some ⟨b,0,none⟩),.int .i64 n] w (fun e w'=>e=.returned (.tuple #[.int .i64 (c.fZ n).1,.int .i64 (c.fZ n).2.1])/\Fam w0 w' (l.set i (GoA b ((c.fZ n).2.2)))):=
 GoA.wrap z d fun x hx y=>aHI w y hx h n
theorem aAk (w:World) (hf:Fam w0 w l) (hi:l[i]?=some (GoA b c)) (h:c.Ok) (k:Int) (d:Option Addr) (n vc:Nat) (y:List Bool) (hn:y.length=n) (hl:n<=1000000) (hv:∀ z,Fam w0 z (l.set i NoA)->aAw z (.slice d n vc) y):Calls prog 92 #[.pointer (some ⟨b,0,none⟩),.int .i64 k,.slice d n vc] w (fun e w'=>e=.returned (.tuple #[.int .i64 (c.aH k y).1,.int .i64 (c.aH k y).2.1])/\Fam w0 w' (l.set i (GoA b ((c.aH k y).2.2)))):=
 GoA.wrap hf hi fun x hx h0=>zC w h0 hx h k d n vc y hn hl (fun z _ _ h=>hv z (Fam.rest h))
theorem aBs (w:World) (z:Fam w0 w l) (d:l[i]?=some (GoA b c)) (h:c.Ok) (k a n:Int):Calls prog 93 #[.pointer (some ⟨b,0,none⟩),.int .i64 k,.int .i64 a,.int .i64 n] w (fun e w'=>e=.returned (.tuple #[.int .i64 (c.aG k a n).1,.int .i64 (c.aG k a n).2.1])/\Fam w0 w' (l.set i (GoA b ((c.aG k a n).2.2)))):=
 GoA.wrap z d fun x hx y=>aAq w y hx h k a n
theorem aGP (w:World) (d:Fam w0 w l) (hi:l[i]?=some (GoA b c)) (h:c.Okc) (y s v:Int):Calls prog 94 #[.pointer (some ⟨b,0,none⟩),.int .i64 y,.int .i64 s,.int .i64 v] w (fun e w'=>e=.returned (.int .i64 (c.store y s v).1)/\Fam w0 w' (l.set i (GoA b ((c.store y s v).2)))):=
 GoA.wrap d hi fun x hx z=>aHA w z hx h y s v
theorem aGQ (w:World) (d:Fam w0 w l) (hi:l[i]?=some (GoA b c)) (h:c.Okc) (k y g:Int):Calls prog 100 #[.pointer (some ⟨b,0,none⟩),.int .i64 k,.int .i64 y,.int .i64 g] w (fun e w'=>e=.returned (.tuple #[.int .i64 (c.refer k y g).1,.int .i64 (c.refer k y g).2.1])/\Fam w0 w' (l.set i (GoA b ((c.refer k y g).2.2)))):=
 GoA.wrap d hi fun x hx z=>aHC w z hx h k y g
theorem aEw (w:World) (d:Fam w0 w l) (hi:l[i]?=some (GoA b c)) (h:c.Okc) (y:Int):Calls prog 101 #[.pointer (some ⟨b,0,none⟩),.int .i64 y] w (fun e w'=>e=.returned (.tuple #[.int .i64 (c.target y).1,.int .i64 (c.target y).2.1])/\Fam w0 w' (l.set i (GoA b ((c.target y).2.2)))):=
 GoA.wrap d hi fun x hx z=>aEN w z hx h y
theorem aJm (w:World) (z:Fam w0 w l) (d:l[i]?=some (GoA b c)) (h:c.Okc):Calls prog 102 #[.pointer (some ⟨b,0,none⟩)] w (fun e w'=>e=.returned (.tuple #[.int .i64 (c.take).1,.int .i64 (c.take).2.1])/\Fam w0 w' (l.set i (GoA b (c.take.2.2)))):=
 GoA.wrap z d fun x hx y=>aHz w y hx h
theorem aGS (w:World) (hf:Fam w0 w l) (hi:l[i]?=some (GoA b c)) (h:c.Okc) (a:Option Addr) (n z:Nat) (y:List Int) (hl:y.length=n) (hn:n<=1000000) (hr:∀ wx,Fam w0 wx (l.set i NoA)->pR wx (.slice a n z) y):Calls prog 98 #[.pointer (some ⟨b,0,none⟩),.slice a n z] w (fun e w'=>e=.returned (.int .i64 (c.begin y).1)/\Fam w0 w' (l.set i (GoA b ((c.begin y).2)))):=
 GoA.wrap hf hi fun x hx d=>aET w d hx h a n z y hl hn hr
theorem aMc (w:World) (d:Fam w0 w l) (hi:l[i]?=some (GoA b c)) (h:c.Okc) (y s:Int):Calls prog 99 #[.pointer (some ⟨b,0,none⟩),.int .i64 y,.int .i64 s] w (fun e w'=>e=.returned (.tuple #[.int .i64 (c.get y s).1,.int .i64 (c.get y s).2])/\Only [] w w'):=by
 obtain ⟨x,hx,z⟩:=GoA.open d hi;exact aKr w z hx h y s
end
def aPD (c:Int) (i:Nat):Bool:=bits BinOp.and IntKind.i64 (c / 2 ^ i) 1 == 1
def aIu (b:Int):Nat:=min b.toNat 9
def aAr (c:Int) (k:Nat):List Bool:=(List.range k).map (aPD c)
def aX (b c:Int):List Bool:=aAr c (aIu b)
theorem sD (c:Int) (k:Nat):(aAr c k).length=k:=by simp [aAr]
theorem aHP (c:Int) (k:Nat):aAr c (k+1)=aAr c k ++ [aPD c k]:=by simp [aAr,List.range_succ]
theorem aFa (b:Int):aIu b<=9:=Nat.min_le_right _ _
def qV (c:Int):Nat->List Int
 | 0=>[]
 | k+1=>qV c k ++ if aPD c (k+1)=true then [(k:Int)+1] else []
theorem aAD (c:Int) (k:Nat):qV c (k+1)=qV c k ++ if aPD c (k+1)=true then [(k:Int)+1] else []:=rfl
def dD (c:Int):List Int:=qV c 40
theorem nJ (c:Int):∀ k,(qV c k).length<=k
 | 0=>Nat.le_refl _
 | k+1=>by
  unfold qV;rw [List.length_append];have:=nJ c k;split<;>simp<;>omega
theorem aCD {c:Int} {x:Int}:∀ {k:Nat},x∈qV c k->1<=x/\x<=(k:Int)
 | 0,h=>by cases h
 | k+1,h=>by
  unfold qV at h;rcases List.mem_append.1 h with h|h
  ·have:=aCD h;omega
  split at h
  ·simp at h;omega
  cases h
theorem aAU (w:World) (b c:Int):Calls prog 91 #[.int .i64 b,.int .i64 c] w (fun e w'=>∃ v,e=.returned v/\Bls w' w.heap.size v (aX b c)/\Only [] w w'):=by
 refine aF fun R hR=>?_;go_in;go_wp2;go_loopw [5,6] (fun vv iv wr=>∃ k:Nat,k<=aIu b/\iv=.int .i64 k/\Bls wr w.heap.size vv (aAr c k)/\Only [] w wr) (fun _ iv _=>aIu b - (intOf iv).toNat)
 case atStart=>exact ⟨0,by omega,rfl,Bls.nil _ _,Only.refl _ _⟩
 case round=>
  obtain ⟨k,hk,rfl,hi,ho⟩:=hrel;have HI:=aA hi;have HO:=aA ho;obtain ⟨va,vc,h2⟩:=hi.len;rw [sD] at h2;subst h2;clear hi ho
  by_cases h9:(k:Int)<b
  ·by_cases h8:(k:Int)<9
   ·have h6:(0:Int)<=k:=by omega
    have y:k<aIu b:=by unfold aIu;omega
    have d:Hid ((bits BinOp.and IntKind.i64 (c / 2 ^ k) 1 == 1)=aPD c k):=rfl;have h7:k<=9:=Nat.le_trans hk (aFa b);go_wp2_with (at_builtin;refine uY rfl _ _ rfl w.heap.size _ _ rfl (HI.out.alloc _) wr.heap.size (bits BinOp.and IntKind.i64 (c / 2 ^ k) 1 == 1) rfl ?c1 ?c2 ?c3 ?c4)
    case c1=>exact (Row.new wr _ [_]).cell 0 rfl
    case c2=>rw [sD];omega
    case c3=>have:=HO.out.size;simp;omega
    case c4=>
     intro v' w3 h0 h1 h5;have h4:Hid (Only [] w w3):=by
      exact (HO.out.alloc _).trans h1 (fun z hz=>.inr (HI.out.own z (jL hz)).1)
     have h3:Hid (Bls w3 w.heap.size v' (aAr c (k+1))):=by
      show Bls _ _ _ _;rw [aHP,<-d.out];exact h0
     clear h0 h1 h5 d;go_wp2;exact ⟨⟨k+1,by omega,by go_num,h3.out,h4.out⟩,by simp [intOf];omega⟩
   have y:k=aIu b:=by unfold aIu at hk ⊢;omega
   have HE:Hid (Bls wr w.heap.size (.slice va k vc) (aX b c)):=by show Bls _ _ _ (aAr c (aIu b));rw [<-y];exact HI.out
   clear y;go_wp2;exact hR.out _ _ ⟨_,rfl,HE.out,HO.out⟩
  have y:k=aIu b:=by unfold aIu at hk ⊢;omega
  have HE:Hid (Bls wr w.heap.size (.slice va k vc) (aX b c)):=by show Bls _ _ _ (aAr c (aIu b));rw [<-y];exact HI.out
  clear y;go_wp2;exact hR.out _ _ ⟨_,rfl,HE.out,HO.out⟩
theorem xP (w:World) (c:Int):Calls prog 57 #[.int .i64 c] w (aNP w (dD c)):=by
 refine aF fun R hR=>?_;go_in;go_wp2;go_loopw [3,4] (fun vv iv wr=>∃ k:Nat,k<=40/\iv=.int .i64 ((k:Int)+1)/\aK wr w.heap.size vv (qV c k)/\Only [] w wr) (fun _ iv _=>41 - (intOf iv).toNat)
 case atStart=>exact ⟨0,by omega,rfl,aK.nil _ _,Only.refl _ _⟩
 case round=>
  obtain ⟨k,hk,rfl,hi,ho⟩:=hrel;have HI:=aA hi;have HO:=aA ho;obtain ⟨va,vc,h7⟩:=hi.len;obtain ⟨n,hn⟩:∃ n,n=(qV c k).length:=⟨_,rfl⟩;have x5:n<=k:=by rw [hn];exact nJ c k
  rw [<-hn] at h7;have HN:=aA hn;subst h7;clear hi ho hn
  by_cases x4:k<40
  ·have h8:(k:Int)+1<=40:=by omega
   have x2:(0:Int)<=(k:Int)+1:=by omega
   obtain ⟨e,y⟩:∃ e:Nat,(k:Int)+1=(e:Int):=⟨k+1,by omega⟩;have d:e=k+1:=by omega
   rw [y] at h8 x2;have h2:=aA y;have h3:=aA d
   cases hb:aPD c (k+1) with
   | true=>
    have h4:Hid (qV c (k+1)=qV c k ++ [(e:Int)]):=by show _=_;rw [<-y,aAD,if_pos hb]
    have h1:(bits BinOp.and IntKind.i64 (c / 2 ^ e) 1 == 1)=true:=by rw [d];exact hb
    have x3:(bits BinOp.and IntKind.i64 (c / 2 ^ e) 1 == 1)=true:=h1;rw [y];clear hb h1 y d;go_wp2_with (at_builtin;refine bJ rfl _ _ rfl w.heap.size _ _ rfl (HI.out.alloc _) wr.heap.size (e:Int) rfl ?c1 ?c2 ?c3 ?c4)
    case c1=>exact (Row.new wr _ [_]).cell 0 rfl
    case c2=>have:=HN.out;omega
    case c3=>have:=HO.out.size;simp;omega
    case c4=>
     intro v' w3 h5 h6 x1;have h9:Hid (Only [] w w3):=by
      exact (HO.out.alloc _).trans h6 (fun z hz=>.inr (HI.out.own z (jL hz)).1)
     have h0:Hid (aK w3 w.heap.size v' (qV c (k+1))):=by
      show aK _ _ _ _;rw [h4.out];exact h5
     clear h5 h6 x1 h4;go_wp2;exact ⟨⟨k+1,by omega,by rw [<-h2.out];go_num,h0.out,h9.out⟩,by have:=h3.out;simp [intOf];omega⟩
   | false=>
    have h0:Hid (aK wr w.heap.size (.slice va n vc) (qV c (k+1))):=by
     show aK _ _ _ _;rw [aAD,if_neg (by rw [hb];decide),List.append_nil];exact HI.out
    have h1:(bits BinOp.and IntKind.i64 (c / 2 ^ e) 1 == 1)=false:=by rw [d];exact hb
    rw [y];clear hb y d;go_wp2;exact ⟨⟨k+1,by omega,by rw [<-h2.out];go_num,h0.out,HO.out⟩,by have:=h3.out;simp [intOf];omega⟩
  obtain rfl:k=40:=by omega
  have HE:Hid (aK wr w.heap.size (.slice va n vc) (dD c)):=HI.out;clear HI HN;go_wp2;exact hR.out _ _ ⟨_,rfl,HE.out,HO.out⟩
def P2 (b g:Nat) (c y:Co) (tl:List Asn):List Asn:=CoA b c :: GoA g y :: tl
end Go.Proofs.YthflghdaejbdkaaGreat
