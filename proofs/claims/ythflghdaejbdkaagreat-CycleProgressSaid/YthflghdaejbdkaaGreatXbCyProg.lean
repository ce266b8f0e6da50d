/- Lemmas of this claim. -/
import Derived.Deep.DeepFit
import Derived.Test.YthflghdaejbdkaaGreatXbCyGH
import Derived.Test.YthflghdaejbdkaaGreatXbCyStar
import Derived.Test.YthflghdaejbdkaaGreatXbRBlockE
import Derived.Test.YthflghdaejbdkaaGreatXbObjD
import Derived.ArgAppend
namespace Go.Proofs.YthflghdaejbdkaaGreat
open _root_.Go.Proofs.Tryz (prog)
open Go.RowKit Go.Maps
set_option maxHeartbeats 6400000
set_option maxRecDepth 100000
set_option linter.unusedVariables false
section
variable {w0 w w':World} {l:List Asn} {b:Nat} {t:Tb} {kk:Nat} {ev qv wv:Value} {nx:Nat} {wl:List Bool}
theorem TrA.trT (h0:l[kk]?=some (TrA b t)) (hf:Fam w0 w l) (hm:lC w b ev qv wv nx wl t) (y z d:Value) (nx':Nat) (e:List Bool) (t':Tb) (h1:lC w' b y z d nx' e t')
  (h2:∀ x,trS b y z d x->trS b ev qv wv x\/w.heap.size<=x) (h3:aI (trS b ev qv wv) w w'):Fam w0 w' (l.set kk (TrA b t')):=by
 refine hf.turn kk h0 fun S hS=>?_;obtain ⟨h5,h7,h9,h6,h8,h4,hS⟩:=hS;obtain ⟨rfl,rfl,rfl⟩:=hm.same h4;exact ⟨trS b y z d,⟨y,z,d,nx',e,h1,fun k=>Iff.rfl⟩,fun k hk=>(h2 k hk).imp (fun x=>(hS k).2 x) id,h3.mono (fun k hk=>.inl ((hS k).2 hk))⟩
theorem TrA.aNM (h4:l[kk]?=some (TrA b t)) (hf:Fam w0 w l) (d:lC w b ev qv wv nx wl t) {w2:World} {v':Value} {q':List Int} (he:aN w2 w.heap.size v' q') (ho:Only [] w w2) :
  w2.cell? ⟨b,1,none⟩=some qv/\w2.frozen? ⟨b,1,none⟩=false/\lC (w2.setCell ⟨b,1,none⟩ v') b ev v' wv nx wl ⟨t.ents,q',t.ph,t.nx,t.fd⟩/\Fam w0 (w2.setCell ⟨b,1,none⟩ v') (l.set kk (TrA b ⟨t.ents,q',t.ph,t.nx,t.fd⟩)):=by
 have h5:b<w.heap.size:=by obtain ⟨U,hr⟩:=d.row;exact hr.lt
 have h0:=d.aK ho;have hs:Only [b] w2 (w2.setCell ⟨b,1,none⟩ v'):=(Only.refl _ w2).set (.inl (by simp)) _;obtain ⟨h1,h2,h3⟩:=h0.rest hs;have y:∀ g,v'.ownBlock=some g->w.heap.size<=g:=fun g z=>(he.own g z).1;have hT:lC (w2.setCell ⟨b,1,none⟩ v') b ev v' wv nx wl ⟨t.ents,q',t.ph,t.nx,t.fd⟩:=
  ⟨h0.row.imp fun U x=>x.set 1 _,h1,(he.base (Nat.zero_le _)).only hs (fun g z=>by have:=y g z;simp;omega),h3,d.now,d.two,fun g z=>⟨(d.n1 g z).1,(d.n1 g z).2.1,fun e=>by have:=y g e;have:=(d.ents.own g z).2;omega⟩,fun g z=>⟨by have:=y g z;omega,fun e=>by have:=y g z;have:=(d.wh.own g e).2;omega⟩,d.n3⟩
 refine ⟨h0.cells.2.1,h0.cells.2.2.2.2.2 1,hT,TrA.trT h4 hf d ev v' wv nx wl _ hT (fun x hx=>?_) ((ho.mono (G:=[b]) (by simp)).trans hs (by simp) |>.toP (fun x hx=>.inl (.inl (by simpa using hx))))⟩;rcases hx with hx|hx|hx|hx
 ·exact .inl (.inl hx)
 ·exact .inl (.inr (.inl hx))
 ·exact .inr (y x hx)
 exact .inl (.inr (.inr (.inr hx)))
theorem aEu (w:World) (h1:l[kk]?=some (TrA b t)) (hf:Fam w0 w l) (hl:t.q.length<=1000000):Calls prog 147 #[.pointer (some ⟨b,0,none⟩)] w (fun e w'=>e=.returned (.tuple #[.int .i64 t.take.1,.int .i64 t.take.2.1])/\Fam w0 w' (l.set kk (TrA b t.take.2.2))):=by
 refine aF fun R hR=>?_;obtain ⟨S0,⟨ev,qv,wv,nx,wl,ht,_⟩,_⟩:=hf.get kk h1;have HT:=aA ht;have HF:=aA hf;unfold Tb.take at hR
 cases e:t.q with
 | nil=>
  obtain ⟨z0,z1,z2,z3,z4,zf⟩:=ht.cells;rw [e] at hR;have y:=ht.q;rw [e] at y;obtain ⟨a,c,rfl⟩:=y.len;clear ht y hf;replace z1:w.cell? ⟨b,1,none⟩=some (.slice a 0 c):=z1;go_in;go_wp2;exact hR.o _ _ ⟨rfl,by show Fam w0 w (l.set kk (TrA b t));rw [xW h1];exact HF.o⟩
 | cons x rs=>
  rw [e] at hR hl;have y:=ht.q;rw [e] at y;obtain ⟨z0,z1,z2,z3,z4,zf⟩:=ht.cells;rcases y.form with ⟨_,h0⟩|⟨g,cap,rfl,_,x6,h5,hc⟩
  ·cases h0
  have x4:w.cell? ⟨g,0,none⟩=some (.int .i64 x):=hc 0 (by simp);have h8:Hid (∀ k,k<rs.length->w.cell? ⟨g,1+k,none⟩=some (.int .i64 (gI rs k))):=fun k hk=>by
   have h4:=hc (k+1) (by simp;omega);rw [Nat.add_comm 1 k,h4];simp [gI]
  obtain ⟨n,hn⟩:∃ z,z=rs.length:=⟨_,rfl⟩;have HN:=aA hn;have h9:n<=1000000:=by rw [hn];simp at hl;omega
  replace h5:n+1<=cap:=by rw [hn];simpa using h5
  replace z1:w.cell? ⟨b,1,none⟩=some (.slice (some ⟨g,0,none⟩) (n+1) cap):=by rw [hn];exact z1
  have h6:(w.alloc (.cells #[] 3)).cell? ⟨b,1,none⟩=some (.slice (some ⟨g,0,none⟩) (n+1) cap):=by rw [World.cell?_alloc_past _ _ _ (World.block_lt_of_cell? w _ z1)];exact z1
  have x1:((n:Int)+1 == 0)=false:=by rw [beq_eq_false_iff_ne];omega
  have x2:(0:Int)<(n:Int)+1:=by omega
  clear ht y hf hn hl hc z0 z2 z3 z4 zf
  by_cases h3:cap=1
  ·subst h3;obtain rfl:n=0:=by omega
   have x3:rs=[]:=List.eq_nil_of_length_eq_zero HN.o.symm;subst x3;replace z1:w.cell? ⟨b,1,none⟩=some (.slice (some ⟨g,0,none⟩) 1 1):=z1;replace h6:(w.alloc (.cells #[] 3)).cell? ⟨b,1,none⟩=some (.slice (some ⟨g,0,none⟩) 1 1):=h6;clear x1 x2;go_in;go_wp2_with (at_builtin;refine gU rfl _ _ rfl w ((Only.refl _ _).alloc _) _ rfl (aN.made _) _ 0 _ [] rfl rfl (.inr ⟨_,_,rfl,rfl⟩) (by omega) ?c1)
   case c1=>
    intro g2 h7 w1 y ho;obtain ⟨y1,yf,_,d⟩:=TrA.aNM h1 HF.o HT.o y.o ho.o;have h2:=aA d;clear y ho d;go_wp2;exact hR.o _ _ ⟨rfl,h2.o⟩
  have x5:(cap=1)=False:=eq_false h3;have x7:(1:Int)<=((n+1:Nat):Int):=by omega
  have x8:((n+1:Nat):Int)<=cap:=by omega
  go_in;go_wp2_with (at_builtin;refine gU rfl _ _ rfl w ((Only.refl _ _).alloc _) _ rfl (aN.made _) (some ⟨g,1,none⟩) n _ rs rfl HN.o.symm (.inl ⟨g,1,_,by rw [HN.o],h8.o⟩) h9 ?c1)
  case c1=>
   intro g2 h7 w1 y ho;obtain ⟨y1,yf,_,d⟩:=TrA.aNM h1 HF.o HT.o y.o ho.o;have h2:=aA d;clear y ho d;go_wp2;exact hR.o _ _ ⟨rfl,h2.o⟩
end
section
variable {w0 w w':World} {l:List Asn} {b:Nat} {c:Co} {x:GX5} {i:Nat} {m:Mk} {t:Tb}
theorem aHG (w:World) (d:Fam w0 w (G5 b c x ++ l)) (hx:x.ok c) (h:c.Okc):Calls prog 102 #[.pointer (some ⟨b,0,none⟩)] w (qU w0 l b c.take):=by
 refine aF fun R hR=>?_;have x1:=(bC.cells d).2.1;have z:=aEu w (kk:=2) (b:=x.ub) (t:=c.t) rfl d (by have:=h.tg.b.q20;omega);replace z:Calls prog 147 #[.pointer (some ⟨x.ub,0,none⟩)] w (fun e w'=>e=.returned (.tuple #[.int .i64 c.t.take.1,.int .i64 c.t.take.2.1])/\Fam w0 w' (G5 b c.take.2.2 x ++ l)):=z;have HX:Hid (x.ok c.take.2.2):=⟨hx.on,hx.mv,hx.m0,hx.mv2⟩;clear d hx h;have HR:Hid (∀ w',Fam w0 w' (G5 b c.take.2.2 x ++ l)->R (.returned (.tuple #[.int .i64 c.t.take.1,.int .i64 c.t.take.2.1])) w'):=fun w' h2=>hR.o _ _ ⟨rfl,x,HX.o,h2⟩;clear hR HX;generalize c.t.take.1=r1 at*;generalize c.t.take.2.1=r2 at*;generalize c.take.2.2=c2 at*;go_in;go_wp2_with fail;go_fit z;rintro e w2 ⟨rfl,y⟩;have F2:=aA y;clear z y;go_wp2_with fail;exact HR.o _ F2.o
theorem aRL (h:c.Okc) {n:Int} (z:(c.t.target n).2=0) (hz:(c.t.target n).1=0):c.target n=(0,0,c):=by
 have y:(c.m.M.ob 0).isSome=false:=by
  cases e:(c.m.M.ob 0).isSome with
  | false=>rfl
  | true=>have:=h.hf.ok.inR e;omega
 have d:c.hid 0=false:=by
  unfold Co.hid;split
  ·unfold Mk.isW;rw [y];rfl
  refine decide_eq_false fun e=>?_;have:=h.su 0 e;rw [y] at this;cases this
 unfold Co.target;rw [if_neg (fun e=>e z),hz,if_neg (by rw [d];decide)];have hs:c.m.bG 0=c.m:=by
  unfold Mk.bG;rw [if_neg (fun e=>by have:=(Mk.jV.1 e).1;exact this rfl)]
 rw [hs];split<;>rfl
theorem aPU (h:c.Okc) {n:Int} (y:(c.t.target n).2=0) (z:(c.t.target n).1≠0):(c.m.M.ob (c.t.target n).1).isSome=true/\(c.ph≠2->c.hid (c.t.target n).1=false):=by
 unfold Tb.target at y z ⊢;split at y
 ·cases y
 rename_i d;rw [if_neg d] at z ⊢;refine ⟨h.tg.b.us _ (by omega) z,fun e=>?_⟩;unfold Co.hid;rw [if_neg e];exact decide_eq_false (h.st _ (by omega))
theorem aEZ (w:World) (hf:Fam w0 w (G5 b c x ++ l)) (hx:x.ok c) (h:c.Okc) (n:Int):Calls prog 101 #[.pointer (some ⟨b,0,none⟩),.int .i64 n] w (qU w0 l b (c.target n)):=by
 refine aF fun R z=>?_;have h3:=bC.cells hf;have x1:=h3.2.1;have x3:=h3.2.2.2.1;obtain ⟨ev,qv,wv,nx,wl,ht⟩:=G5.tr hf;have ct:=aCK w ht n;have HX:=aA hx
 by_cases he:(c.t.target n).2=0
 ·by_cases hz:(c.t.target n).1=0
  ·rw [aRL h he hz] at z;rw [he,hz] at ct;have F0:=aA hf;clear hf hx h ht he hz h3 x3;go_in;go_wp2_with fail;go_fit ct;rintro e _ ⟨rfl,rfl⟩;clear ct;go_wp2;exact z.o _ _ ⟨rfl,x,HX.o,F0.o⟩
  obtain ⟨hu,hh⟩:=aPU h he hz;have hr:=h.hf.ok.inR hu;rw [he] at ct;have h0:c.target n=if c.hid (c.t.target n).1=true then (0,0,c) else ((c.t.target n).1,0,if c.ph=1 then { c with m:=c.m.bG (c.t.target n).1 } else c):=by
   unfold Co.target;rw [if_neg (fun e=>e he)]
  rw [h0] at z;obtain ⟨y,hy⟩:∃ y,y=(c.t.target n).1:=⟨_,rfl⟩;rw [<-hy] at z hu hh hr ct hz;have x8:(y == 0)=false:=by simpa using hz
  clear h0 hy he hz ht h3
  by_cases h1:c.ph=1
  ·rw [hh (by omega)] at z;have d:x.on=true:=hx.on.trans (dM.2 (.inl h1));have cs:=aBd w (G5.t2 (b:=b) (c:=c) (x:=x) (l:=l)) (G5.toR d hf) (h.mo (.inl h1)) y;rw [G5.rl d] at cs;have x2:=G5.m2 d hf;have H1:=aA h1;have HR:Hid (∀ w',Fam w0 w' (G5 b (c.pU (c.m.bG y)) x ++ l)->R (.returned (.tuple #[.int .i64 y,.int .i64 0])) w'):=fun w' h2=>z.o _ _ (by
    rw [if_neg (by decide),if_pos H1.o];exact ⟨rfl,x,⟨HX.o.on,HX.o.mv,HX.o.m0,HX.o.mv2⟩,h2⟩)
   have h6:Hid (∀ wx,Fam w0 wx (G5 b (c.pU (c.m.bG y)) x ++ l)->wx.cell? ⟨b,3,none⟩=some (.int .i64 1)):=fun wx hwx=>by
    have:=(bC.cells hwx).2.2.2.1;have h9:(c.pU (c.m.bG y)).ph=1:=H1.o;rw [h9] at this;exact this
   rw [h1] at x3;clear hf hx h d h1 hh hu hr z;generalize c.m.jX y=se at*;go_in;go_wp2_with fail;go_fit ct;rintro e _ ⟨rfl,rfl⟩;clear ct;go_wp2_with fail;go_fit cs;rintro e w2 ⟨rfl,h5⟩;have F2:=aA h5;have y3:=h6.o w2 h5;clear cs h5 x1 x2 x3;go_wp2_with fail;exact HR.o _ F2.o
  by_cases h2:c.ph=2
  ·have d:x.on=true:=hx.on.trans (aLg h2);have x2:=G5.m2 d hf;obtain ⟨tg,tc,v,T,hg⟩:=RL.mk (G5.t2 (b:=b) (c:=c) (x:=x) (l:=l)) (G5.toR d hf);obtain ⟨U,h4⟩:=hg.row;have k1:=h4.cell 1 rfl;obtain ⟨k,rfl⟩:∃ k:Nat,y=(k:Int):=⟨y.toNat,by omega⟩;have x5:(k:Int)<193:=by omega
   have x7:(0:Int)<=(k:Int):=by omega
   obtain ⟨tb,tq,x4,kt⟩:=hg.tint.read.at (k:=k) (by rw [hg.tl];omega)
   cases x4
   rw [Nat.zero_add,hg.tv k (by omega)] at kt;have hw:c.hid (k:Int)=decide (c.m.col (k:Int)=0):=by unfold Co.hid;rw [if_pos h2];unfold Mk.isW;rw [hu];rfl
   have h7:=aA ((h.mo (.inr h2)).rg (k:Int));rw [hw,if_neg h1] at z;have F0:=aA hf;rw [h2] at x3;clear hf hx h d h1 h2 hh hu hr hg h4 hw;generalize c.m.col (k:Int)=kc at*;have h8:=h7.o;rcases h8 with e0|e0|e0
   all_goals
    rw [e0] at kt z;go_in;go_wp2_with fail;go_fit ct;rintro e _ ⟨rfl,rfl⟩;clear ct;go_wp2;exact z.o _ _ ⟨rfl,x,HX.o,F0.o⟩
  rw [hh h2,if_neg h1] at z;have F0:=aA hf;have p1:((c.ph:Int) == 1)=false:=by rw [beq_eq_false_iff_ne];omega
  have p2:((c.ph:Int) == 2)=false:=by rw [beq_eq_false_iff_ne];omega
  replace z:Hid (∀ e w',qU w0 l b (y,0,c) e w'->R e w'):=z;have HR:Hid (∀ w',Fam w0 w' (G5 b c x ++ l)->R (.returned (.tuple #[.int .i64 y,.int .i64 0])) w'):=fun w' h2=>z.o _ _ ⟨rfl,x,HX.o,h2⟩;clear hf hx h h1 h2 hh hu hr z HX;generalize c.ph=ph at*;go_in;go_wp2_with fail;go_fit ct;rintro e _ ⟨rfl,rfl⟩;clear ct;go_wp2_with fail;exact HR.o _ F0.o
 have h0:c.target n=(0,(c.t.target n).2,c):=by unfold Co.target;rw [if_pos he]
 rw [h0] at z;have x6:((c.t.target n).2 != 0)=true:=by simpa using he
 have F0:=aA hf;clear hf hx h ht he h3 x3 h0;generalize (c.t.target n).2=e2 at*;generalize (c.t.target n).1=e1 at*;go_in;go_wp2_with fail;go_fit ct;rintro e _ ⟨rfl,rfl⟩;clear ct;go_wp2;exact z.o _ _ ⟨rfl,x,HX.o,F0.o⟩
theorem QL.last (t':Tb) (r:Nat):QL ((G5 b c x ++ l) ++ [GkA r x.q (fun _=>0) []]) 0 (G5 b c x ++ l).length 2 x.q r x.ub (Mk.start c.m.M) t'=(G5 b (c.eU t') x ++ l) ++ [GkA r x.q (fun _=>0) []]:=by
 have y:(G5 b c x ++ l).length=5+l.length:=by rw [List.length_append];rfl
 have z:((G5 b c x ++ l).set 2 (TrA x.ub t')).length=5+l.length:=by rw [List.length_set,y]
 unfold QL RL;rw [List.set_append_left _ _ (by omega),List.set_append_left _ _ (by omega),List.set_append_right _ _ (by rw [List.length_set,z,y];omega),List.length_set,z,y,Nat.sub_self];rfl
theorem aHJ (w:World) (hf:Fam w0 w (G5 b c x ++ l)) (hx:x.ok c) (h:c.Okc) (k y g:Int):Calls prog 100 #[.pointer (some ⟨b,0,none⟩),.int .i64 k,.int .i64 y,.int .i64 g] w (qU w0 l b (c.refer k y g)):=by
 refine aF fun R hR=>?_;have h0:=bC.cells hf;have x3:=h0.2.2.2.1;have F0:=aA hf;have HX:=aA hx
 by_cases hk:k<1\/3<k
 ·have d:c.refer k y g=(0,1,c):=by
   have hz:∀ z,c.t.add c.m k z g=(0,1,c.t):=fun z=>by unfold Tb.add;rw [if_pos hk]
   unfold Co.refer
   by_cases h2:c.ph=2
   ·rw [if_pos h2,if_pos hk]
   rw [if_neg h2,hz]
  rw [d] at hR;clear hf hx h d h0 x3
  by_cases k1:k<1
  ·clear hk;go_in;go_wp2;exact hR.o _ _ ⟨rfl,x,HX.o,F0.o⟩
  have k3:3<k:=by omega
  clear hk;go_in;go_wp2;exact hR.o _ _ ⟨rfl,x,HX.o,F0.o⟩
 have k1:¬ k<1:=by omega
 have k3:¬ 3<k:=by omega
 by_cases h2:c.ph=2
 ·have d:c.refer k y g=(0,13,c):=by unfold Co.refer;rw [if_pos h2,if_neg hk]
  rw [d] at hR;rw [h2] at x3;clear hf hx h d h0 hk h2;go_in;go_wp2;exact hR.o _ _ ⟨rfl,x,HX.o,F0.o⟩
 have x2:((c.ph:Int) == 2)=false:=by rw [beq_eq_false_iff_ne];omega
 have h7:=h.t0 h2;have ch:=sQ w hf hx h y;have d:c.refer k y g=((c.t.add c.m k (if c.hid y then 0 else y) g).1,(c.t.add c.m k (if c.hid y then 0 else y) g).2.1,{ c with t:=(c.t.add c.m k (if c.hid y then 0 else y) g).2.2 }):=by unfold Co.refer;rw [if_neg h2]
 rw [d] at hR
 cases hg:c.gone y with
 | true=>
  have h6:c.t.add c.m k (if c.hid y then 0 else y) g=(0,3,c.t):=by
   have hz:(c.m.M.ob (if c.hid y then 0 else y)).isSome=false:=by
    cases e:c.hid y with
    | true=>
     show (c.m.M.ob 0).isSome=false
     cases e2:(c.m.M.ob 0).isSome with
     | false=>rfl
     | true=>have:=h.hf.ok.inR e2;omega
    | false=>
     unfold Co.gone at hg;rw [e,Bool.or_false] at hg;show (c.m.M.ob y).isSome=false;simpa using hg
   unfold Tb.add;rw [if_neg hk,if_neg (fun e=>e h7),if_pos hz]
  rw [h6] at hR;rw [hg] at ch;replace hR:Hid (∀ e w',qU w0 l b (0,3,c) e w'->R e w'):=hR;have HR:Hid (∀ w',Fam w0 w' (G5 b c x ++ l)->R (.returned (.tuple #[.int .i64 0,.int .i64 3])) w'):=fun w' h2=>hR.o _ _ ⟨rfl,x,HX.o,h2⟩;clear hf hx h d h0 hk h2 h7 hg h6 hR HX;generalize c.ph=ph at*;go_in;go_wp2_with fail;go_fit ch;rintro e w1 ⟨rfl,ho⟩;have F1:=aA (F0.o.aK ho);clear ch ho F0;go_wp2_with fail;exact HR.o _ F1.o
 | false=>
  have h8:c.hid y=false:=by
   unfold Co.gone at hg
   cases e:c.hid y with
   | true=>rw [e,Bool.or_true] at hg;cases hg
   | false=>rfl
  rw [h8] at hR;replace hR:Hid (∀ e w',qU w0 l b ((c.t.add c.m k y g).1,(c.t.add c.m k y g).2.1,c.eU (c.t.add c.m k y g).2.2) e w'->R e w'):=hR;rw [hg] at ch;have HB:Hid (∀ wx,Fam w0 wx (G5 b c x ++ l)->wx.cell? ⟨b,0,none⟩=some (.pointer (some ⟨x.q,0,none⟩))/\Calls prog 181 #[.pointer (some ⟨x.q,0,none⟩),.slice none 0 0] wx (fun e w'=>∃ r,e=.returned (.tuple #[.pointer (some ⟨r,0,none⟩),.int .i64 0])/\Fam w0 w' ((G5 b c x ++ l) ++ [GkA r x.q (fun _=>0) []]))):=fun wx hwx=>by
   refine ⟨(bC.cells hwx).1,?_⟩;have h9:¬ c.m.M.bZ []:=fun ⟨y,hy,_⟩=>by simp at hy
   refine (aBg wx hwx (i:=0) rfl none 0 0 [] rfl (by omega) (.inr ⟨none,0,rfl,rfl⟩) (fun _ _ _ _=>.inr ⟨none,0,rfl,rfl⟩) h.hf).mono ?_;rintro e w' (⟨hb,_⟩|⟨_,r,he,x1⟩)
   ·exact absurd hb h9
   have hq:=QL.last (b:=b) (c:=c) (x:=x) (l:=l) c.t r;have e1:QL ((G5 b c x ++ l) ++ [GkA r x.q (fun _=>0) []]) 0 (G5 b c x ++ l).length 2 x.q r x.ub (Mk.start c.m.M) c.t=RL ((G5 b c x ++ l) ++ [GkA r x.q (fun _=>0) []]) 0 (G5 b c x ++ l).length x.q r (Mk.start c.m.M):=by
    unfold QL;congr 1
   refine ⟨r,he,?_⟩;have h3:Fam w0 w' (RL ((G5 b c x ++ l) ++ [GkA r x.q (fun _=>0) []]) 0 (G5 b c x ++ l).length x.q r (Mk.start c.m.M)):=x1;rw [<-e1,hq] at h3;exact h3
  have HA:Hid (∀ wx r,Fam w0 wx ((G5 b c x ++ l) ++ [GkA r x.q (fun _=>0) []])->wx.cell? ⟨b,1,none⟩=some (.pointer (some ⟨x.ub,0,none⟩))/\Calls prog 146 #[.pointer (some ⟨x.ub,0,none⟩),.pointer (some ⟨r,0,none⟩),.int .i64 k,.int .i64 y,.int .i64 g] wx (fun e w'=>e=.returned (.tuple #[.int .i64 (c.t.add c.m k y g).1,.int .i64 (c.t.add c.m k y g).2.1])/\Fam w0 w' (G5 b (c.eU (c.t.add c.m k y g).2.2) x ++ l))):=fun wx r hwx=>by
   refine ⟨(bC.cells hwx.pop).2.1,?_⟩;have h5:(G5 b c x ++ l).length=5+l.length:=by rw [List.length_append];rfl
   have T3:Three ((G5 b c x ++ l) ++ [GkA r x.q (fun _=>0) []]) 0 (G5 b c x ++ l).length 2:=⟨⟨by simp [G5],by simp,by omega⟩,by simp [G5],by decide,by omega⟩;have h4:Fam w0 wx (QL ((G5 b c x ++ l) ++ [GkA r x.q (fun _=>0) []]) 0 (G5 b c x ++ l).length 2 x.q r x.ub (Mk.start c.m.M) c.t):=by rw [QL.last];exact hwx
   have:=aJu wx T3 h4 k y g;have ea:∀ (k y g:Int),c.t.add (Mk.start c.m.M) k y g=c.t.add c.m k y g:=fun _ _ _=>rfl;rw [ea,QL.last] at this;exact this.mono fun e w' ⟨h1,h2⟩=>⟨h1,h2.pop⟩
  have HR:Hid (∀ w',Fam w0 w' (G5 b (c.eU (c.t.add c.m k y g).2.2) x ++ l)->R (.returned (.tuple #[.int .i64 (c.t.add c.m k y g).1,.int .i64 (c.t.add c.m k y g).2.1])) w'):=fun w' h2=>hR.o _ _ ⟨rfl,x,⟨HX.o.on,HX.o.mv,HX.o.m0,HX.o.mv2⟩,h2⟩;clear hf hx h d h0 hk h2 h7 hg h8 hR HX;generalize (c.t.add c.m k y g).1=a1 at*;generalize (c.t.add c.m k y g).2.1=a2 at*;generalize c.eU (c.t.add c.m k y g).2.2=c2 at*;generalize c.ph=ph at*;go_in;go_wp2_with fail;go_fit ch;rintro e w1 ⟨rfl,ho⟩;obtain ⟨z0,cb⟩:=HB.o w1 (F0.o.aK ho);clear ch ho F0 HB x3;go_wp2_with fail;go_fit cb;rintro e w2 ⟨r,rfl,h3⟩;obtain ⟨z1,ca⟩:=HA.o w2 r h3;clear cb h3 HA z0;go_wp2_with fail;go_fit ca;rintro e w3 ⟨rfl,h4⟩;have F3:=aA h4;clear ca h4;go_wp2_with fail;exact HR.o _ F3.o
theorem aFf (w:World) (hf:Fam w0 w (G5 b c x ++ l)) (hx:x.ok c) (h:c.Okc) (a:Option Addr) (n cp:Nat) (y:List Int) (hl:y.length=n) (hn:n<=1000000) (hr:∀ wx,Fam w0 wx l->mY wx (.slice a n cp) y) :
  Calls prog 98 #[.pointer (some ⟨b,0,none⟩),.slice a n cp] w (aRl w0 l b (c.begin y)):=by
 refine aF fun R hR=>?_;have h3:=bC.cells hf;have x0:=h3.1;have x3:=h3.2.2.2.1;have F0:=aA hf;have HX:=aA hx;unfold Co.begin at hR
 by_cases h4:192<y.length
 ·rw [if_pos h4] at hR;have h1:(192:Int)<n:=by omega
  clear h4 hr h hl hf hx h3 x3;go_in;go_wp2;exact hR.o _ _ ⟨rfl,x,HX.o,F0.o⟩
 rw [if_neg h4] at hR;have h1:¬ (192:Int)<n:=by omega
 by_cases hp:c.ph≠0
 ·rw [if_pos hp] at hR;have x5:((c.ph:Int) != 0)=true:=by simpa using hp
  have HR:Hid (∀ w',Fam w0 w' (G5 b c x ++ l)->R (.returned (.int .i64 13)) w'):=fun w' h2=>hR.o _ _ ⟨rfl,x,HX.o,h2⟩;clear h4 hr h hl hf hx hp h3 HX hR;generalize c.ph=ph at*;go_in;go_wp2_with fail;exact HR.o _ F0.o
 rw [if_neg hp] at hR;have h7:c.ph=0:=Classical.not_not.1 hp;rw [h7] at x3;have h6:x.on=false:=hx.on.trans (aBo (by omega) (by omega));have x2:(G5 b c x ++ l).length=5+l.length:=by rw [List.length_append];rfl
 have cb:=aBg w hf (i:=0) rfl a n cp y hl hn (hr w (Fam.rest hf)) (fun r w' m' h9=>hr w' (by
  refine h9.selC (fun k=>5+k) (fun k Y hk=>?_) (fun j k _ _ hne e=>hne (by omega));have x4:=(List.getElem?_eq_some_iff.1 hk).1;have h5:(G5 b c x).length=5:=rfl;unfold RL;rw [List.getElem?_set_ne (by omega),List.getElem?_set_ne (by omega),List.getElem?_append_left (by omega),List.getElem?_append_right (by omega),show 5+k - (G5 b c x).length=k by omega];exact hk)) h.hf
 have h8:=aA hl;have x1:=aA h6;clear hr h hl hf hx hp h3 h6 h7;go_in;go_wp2_with fail;go_fit cb;rintro e w1 (⟨d,rfl,h0⟩|⟨d,r2,rfl,h0⟩)
 ·rw [if_pos d] at hR;have F1:=aA h0;clear cb h0 d F0;go_wp2;exact hR.o _ _ ⟨rfl,x,HX.o,F1.o⟩
 rw [if_neg d] at hR;have hM:((Mk.start c.m.M).aY y).M=c.m.M:=Mk.jP _ _;have F2:Hid (Fam w0 w1 ([GH x.q ((Mk.start c.m.M).aY y).M,GkA r2 x.q ((Mk.start c.m.M).aY y).col ((Mk.start c.m.M).aY y).list,TrA x.ub c.t,bT x.sv c.sw,eY b 99 (bC b c x)] ++ l)):=by
  unfold RL at h0;rw [List.set_append_left _ _ (by omega),List.set_append_right _ _ (by rw [List.length_set];omega),List.length_set,Nat.sub_self] at h0;exact h0.aPW
 have z:=F2.o.row 4 rfl;have x6:=z.cell 2 rfl;have x7:=z.free 2;have x8:=z.cell 3 rfl;have x9:=z.free 3;have y2:=z.cell 7 rfl;have y3:=z.free 7;have y0:=z.cell 4 rfl;have y1:=z.free 4;have F5:Hid (Fam w0 ((((w1.setCell ⟨b,2,none⟩ (.pointer (some ⟨r2,0,none⟩))).setCell ⟨b,3,none⟩ (.int .i64 1)).setCell ⟨b,7,none⟩ (.int .i64 0)).setCell ⟨b,4,none⟩ (.int .i64 (-1 - (n:Int)))) (G5 b { c with m:=(Mk.start c.m.M).aY y,ph:=1,cr:=-1 - (n:Int),mv:=0 } { x with r:=r2,on:=true,mv:=0 } ++ l)):=
  (((F2.o.bW 4 rfl 2 (.pointer (some ⟨r2,0,none⟩))).bW 4 rfl 3 (.int .i64 1)).bW 4 rfl 7 (.int .i64 0)).bW 4 rfl 4 (.int .i64 (-1 - (n:Int)))
 clear cb h0 d hM z F2 F0;go_wp2;exact hR.o _ _ ⟨rfl,{ x with r:=r2,on:=true,mv:=0 },⟨rfl,fun e=>(by cases e),fun _ _=>rfl,Nat.zero_le _⟩,by rw [h8.o];exact F5.o⟩
theorem aKr (w:World) (n r:Int) (h:n<1\/24<n\/r<0\/100<r):Calls prog 36 #[.int .i64 n,.int .i64 r] w (fun e w'=>e=.returned (.tuple #[.pointer none,.int .i64 1])/\Only [] w w'):=by
 refine aF fun R hR=>?_
 by_cases d:n<1\/24<n
 ·have y:=aMS w n d;clear h d;go_in;go_wp2_with fail;go_fit y;rintro e _ ⟨rfl,rfl⟩;go_wp2;exact hR.o _ _ ⟨rfl,Only.refl _ _⟩
 obtain ⟨k,rfl⟩:∃ k:Nat,n=(k:Int):=⟨n.toNat,by omega⟩;have y:=aDG w k (by omega) (by omega)
 by_cases h1:r<0
 ·clear h d;go_in;go_wp2_with fail;go_fit y;rintro e w1 ⟨hb,L,X,rfl,_,_,z⟩;have HO:=aA z;clear y z;go_wp2;exact hR.o _ _ ⟨rfl,HO.o⟩
 have h2:100<r:=by omega
 clear h d;go_in;go_wp2_with fail;go_fit y;rintro e w1 ⟨hb,L,X,rfl,_,_,z⟩;have HO:=aA z;clear y z;go_wp2;exact hR.o _ _ ⟨rfl,HO.o⟩
theorem aHK (w:World) (hf:Fam w0 w l) (n:Nat) (r:Int) (h1:1<=n) (d:n<=24) (hr:0<=r/\r<=100):Calls prog 36 #[.int .i64 (n:Int),.int .i64 r] w (fun e w'=>∃ b,e=.returned (.tuple #[.pointer (some ⟨b,0,none⟩),.int .i64 0])/\Fam w0 w' (l ++ [GoA b (Co.new n r)])):=by
 refine aF fun R hR=>?_;have ch:=aDG w n h1 d;have HF:=aA hf;have h0:Hid ((Hp.new n).OkF):=Hp.OkF.new h1 d;have r1:¬ r<0:=by omega
 have r2:¬ 100<r:=by omega
 clear hf h1 d hr;go_in;go_wp2_with fail;go_fit ch;rintro e y ⟨hb,L,X,rfl,hp,hL,ho⟩;have F1:Hid (Fam w0 y (l ++ [GH hb (Hp.new n)] ++ [NoA])):=(HF.o.add (aPg hp h0.o.ok hL ho)).aQU;have ct:=aJr y;clear ch hp hL ho HF;go_wp2_with fail;go_fit ct;rintro e z ⟨rfl,rfl⟩;have F3:Hid (Fam w0 (y.alloc (.cells #[.slice none 0 0,.slice none 0 0,.int .i64 0,.int .i64 0,.slice none 0 0] 52)) (l ++ [GH hb (Hp.new n)] ++ [NoA] ++ [TrA y.heap.size Tb.new])):=F1.o.add (aOi y);obtain ⟨t,ht⟩:∃ t,t=y.heap.size:=⟨_,rfl⟩;rw [<-ht] at F3 ⊢;generalize y.alloc (.cells #[.slice none 0 0,.slice none 0 0,.int .i64 0,.int .i64 0,.slice none 0 0] 52)=z at*;have F4:=F3.o.gY (v:=.slice none 0 0) (m:=[]) (Only.refl [] z) (aN.nil z z.heap.size);have F5:Hid (Fam w0 (z.alloc (.cells #[.pointer (some ⟨hb,0,none⟩),.pointer (some ⟨t,0,none⟩),.pointer none,.int .i64 0,.int .i64 0,.int .i64 r,.int .i64 (n:Int),.int .i64 0,.slice none 0 0] 99)) (G5 z.heap.size (Co.new n r) ⟨hb,0,t,.slice none 0 0,false,0⟩ ++ l)):=by
  have f5:=F4.aBH 99 [.pointer (some ⟨hb,0,none⟩),.pointer (some ⟨t,0,none⟩),.pointer none,.int .i64 0,.int .i64 0,.int .i64 r,.int .i64 (n:Int),.int .i64 0,.slice none 0 0];exact f5.aOA
 clear ct F1 F3 F4 ht;go_wp2;exact hR.o _ _ ⟨z.heap.size,rfl,GoA.born ⟨rfl,fun e=>(by cases e),fun e=>(by cases e),Nat.zero_le _⟩ F5.o⟩
end
theorem aKu {c:Co} (y:c.ph=0) (n:Int):c.give n=(0,c):=by unfold Co.give;rw [if_pos y]
theorem jD {c:Co} (y:c.ph=0):c.aH 0 []=((c.m.M.aH 0 []).1,(c.m.M.aH 0 []).2.1,{ c with m:=c.m.put (c.m.M.aH 0 []).2.2 }):=by
 unfold Co.aH;rw [if_neg (by simp),aKu y];show c.newObj 0 []=_;unfold Co.newObj;rw [if_neg (by rw [dM];omega)]
theorem aJp {c:Co} (hm:c.m=Mk.start aPI) (ht:c.t=Tb.new) (hp:c.ph=0) (hr:c.rate=0) (hg:c.pages=2) (hs:c.sw=[]):c.begin [1]=(0,aEf):=by
 have z:¬ aPI.bZ [1]:=by
  rintro ⟨y,hy,_,h⟩;have d:y=1:=by simpa using hy
  have:=aQb;rw [<-d,h] at this
  cases this
 unfold Co.begin;rw [if_neg (by simp),if_neg (fun e=>e hp),hm,if_neg (show ¬ (Mk.start aPI).M.bZ [1] from z)];obtain ⟨m,t,ph,cr,h1,h0,sw,mv⟩:=c
 cases hm
 cases ht
 cases hr
 cases hg
 cases hs
 rfl
theorem aGI (h:aEf.Okc):aEf.finish=((6:Int),Co.costs 6 aEf,0,Co.steps 6 aEf):=by
 have y:=Co.aFh h rE.2.1 rE.1;unfold Co.finish;rw [if_neg (by show ¬ (1:Nat)=0;decide),<-y];rfl
theorem aAe (w:World):Calls prog 32 #[] w (fun e w'=>e=.returned (.bool true)/\Only [] w w'):=by
 refine aF fun R hR=>?_;have c1:=aDW w (Fam.nil w) 2 0 (by omega) (by omega) ⟨Int.le_refl 0,by decide⟩;have K0:Hid ((Co.new 2 0).Ok):=Co.Ok.new (by omega) (by omega) ⟨Int.le_refl 0,by decide⟩;go_in;go_wp2_with fail;go_fit c1;rintro e w1 ⟨b,rfl,h6⟩;have F1:Hid (Fam w w1 [CoA b (Co.new 2 0)]):=h6;have c2:=kZ w1 F1.o (i:=0) rfl K0.o 0 none 0 0 [] rfl (by omega) (fun wx _=>.inl ⟨rfl,rfl⟩);have K1:=aA (K0.o.aH 0 []);obtain ⟨d,hd⟩:∃ d,d=((Co.new 2 0).aH 0 []).2.2:=⟨_,rfl⟩;have HD:Hid (d={ Co.new 2 0 with m:=(Co.new 2 0).m.put ((Hp.new 2).aH 0 []).2.2 }):=by show _=_;rw [hd,jD rfl];rfl
 rw [<-hd] at c2 K1;rw [show ((Co.new 2 0).aH 0 []).1=1 by rw [jD rfl];exact aCu.1] at c2;clear c1 h6 hd;generalize ((Co.new 2 0).aH 0 []).2.1=e1 at*;go_wp2_with fail;go_fit c2;rintro e w2 ⟨rfl,h7⟩;have F2:Hid (Fam w w2 [CoA b d]):=h7;have h3:d.ph=0:=by rw [HD.o];rfl
 have h2:d.m.M=((Hp.new 2).aH 0 []).2.2:=by rw [HD.o];rfl
 have c3:=kZ w2 F2.o (i:=0) rfl K1.o 0 none 0 0 [] rfl (by omega) (fun wx _=>.inl ⟨rfl,rfl⟩);have K2:=aA (K1.o.aH 0 []);obtain ⟨d2,h1⟩:∃ d2,d2=(d.aH 0 []).2.2:=⟨_,rfl⟩;have h5:Hid (d2={ d with m:=d.m.put (d.m.M.aH 0 []).2.2 }):=by show _=_;rw [h1,jD h3]
 rw [<-h1] at c3 K2;rw [show (d.aH 0 []).1=2 by rw [jD h3,h2];exact aCu.2.2.1] at c3;have HB:Hid (d2.begin [1]=(0,aEf)):=by
  have hm:d2.m=Mk.start aPI:=by rw [h5.o];show d.m.put _=_;rw [h2,HD.o];rfl
  refine aJp hm ?_ ?_ ?_ ?_ ?_<;>(rw [h5.o,HD.o];rfl)
 clear c2 h7 h1 h3 h2 F1;generalize (d.aH 0 []).2.1=e2 at*;go_wp2_with fail;go_fit c3;rintro e z ⟨rfl,h9⟩;have F3:Hid (Fam w z [CoA b d2]):=h9;have F4:Hid (Fam w (z.alloc (.cells #[.int .i64 1] 3)) [CoA b d2,eY z.heap.size 3 [.int .i64 1]]):=F3.o.addRow 3 [.int .i64 1];clear c3 h9 F2;have c4:=vI _ F4.o (i:=0) rfl K2.o.k (some ⟨z.heap.size,0,none⟩) 1 1 [1] rfl (by omega) (fun y hy=>by simp at hy;rw [hy];exact dI (by decide)) (fun wx hx=>.inl ⟨z.heap.size,0,1,rfl,fun k hk=>by
  have h0:k=0:=by simp at hk;omega
  subst h0;exact (hx.row 1 rfl).cell 0 rfl⟩)
 rw [HB.o] at c4;have K3:Hid (aEf.Ok):=by have:=K2.o.begin [1];rw [HB.o] at this;exact this
 go_wp2_with fail;go_fit c4;rintro e w5 ⟨rfl,x1⟩;have F5:Hid (Fam w w5 [CoA b aEf,eY z.heap.size 3 [.int .i64 1]]):=x1;have c5:=mP w5 F5.o (i:=0) rfl K3.o.k;rw [aGI K3.o.k] at c5;have y1:=Co.aCh K3.o.k 6;clear c4 x1 F4 F3;generalize Co.costs 6 aEf=cs at*;go_wp2_with fail;go_fit c5;rintro e w6 ⟨rfl,x2⟩;have F6:Hid (Fam w w6 [CoA b (Co.steps 6 aEf),eY z.heap.size 3 [.int .i64 1]]):=x2;have x8:Hid ((Co.steps 6 aEf).ph=0):=rE.1;have x7:Hid ((Co.steps 6 aEf).m.M.handles=[1]):=rE.2.2;generalize Co.steps 6 aEf=d6 at*;have c6:=aAj w6 F6.o (i:=0) rfl;clear c5 x2 F5;go_wp2_with fail;go_fit c6;rintro e w7 ⟨q,rfl,x9,x3⟩;have F7:Hid (Fam w w7 [CoA b d6,eY z.heap.size 3 [.int .i64 1],PH q d6.m.M]):=x3;obtain ⟨x4,L7,X7,x6⟩:=F7.o.ph 2 rfl;have c7:=qJ w7 x6 x4;rw [x7.o] at c7;clear c6 x3 x9 F6 x4 x6;go_wp2_with fail;go_fit c7;rintro e w8 ⟨v8,rfl,h4,x5⟩;have F8:=aA (F7.o.aK x5);obtain ⟨va,vc,y0⟩:=h4.len;subst y0;obtain ⟨vb,vo,rfl,h8⟩:=h4.read.at (k:=0) (by simp);replace h8:w8.cell? ⟨vb,vo,none⟩=some (.int .i64 1):=by rw [Nat.add_zero] at h8;exact h8
 have c8:=qK w8 F8.o (i:=0) rfl;rw [x8.o] at c8;clear c7 h4 x5 F7;go_wp2_with fail;go_fit c8;rintro e _ ⟨rfl,rfl⟩;have HE:=aA F8.o.only;clear c8 F8;go_wp2;exact hR.o _ _ ⟨rfl,HE.o⟩
section
variable {w0 w:World} {l:List Asn} {b:Nat} {c c':Co} {x:GX5} {i:Nat}
theorem GoA.wrap {f:FuncId} {y:Array Value} {r:Value} (hf:Fam w0 w l) (hi:l[i]?=some (GoA b c)) (hc:∀ x:GX5,x.ok c->Fam w0 w (G5 b c x ++ l.set i NoA)->Calls prog f y w (fun e w'=>e=.returned r/\∃ z:GX5,z.ok c'/\Fam w0 w' (G5 b c' z ++ l.set i NoA))) :
  Calls prog f y w (fun e w'=>e=.returned r/\Fam w0 w' (l.set i (GoA b c'))):=by
 obtain ⟨x,hx,h0⟩:=GoA.open hf hi;exact (hc x hx h0).mono fun e w' ⟨he,z,h1,d⟩=>⟨he,GoA.close h1 d (List.getElem?_eq_some_iff.1 hi).1⟩
theorem aJy (w:World) (z:Fam w0 w l) (d:l[i]?=some (GoA b c)) (h:c.Okc):Calls prog 95 #[.pointer (some ⟨b,0,none⟩)] w (fun e w'=>e=.returned (.tuple #[.int .i64 (c.step).1,.int .i64 (c.step).2.1])/\Fam w0 w' (l.set i (GoA b (c.step.2.2)))):=
 GoA.wrap z d fun x hx y=>pI w y hx h
theorem yI (w:World) (z:Fam w0 w l) (d:l[i]?=some (GoA b c)) (h:c.Okc):Calls prog 97 #[.pointer (some ⟨b,0,none⟩)] w (fun e w'=>e=.returned (.tuple #[.int .i64 c.finish.1,.int .i64 c.finish.2.1,.int .i64 c.finish.2.2.1])/\Fam w0 w' (l.set i (GoA b (c.finish.2.2.2)))):=
 GoA.wrap z d fun x hx y=>aFd w y hx h
theorem aHb (w:World) (z:Fam w0 w l) (d:l[i]?=some (GoA b c)) (h:c.Ok) (n:Int):Calls prog 96 #[.pointer (some ⟨b,0,none⟩),.int .i64 n] w (fun e w'=>e=.returned (.tuple #[.int .i64 (c.fZ n).1,.int .i64 (c.fZ n).2.1])/\Fam w0 w' (l.set i (GoA b ((c.fZ n).2.2)))):=
 GoA.wrap z d fun x hx y=>aHP w y hx h n
theorem aAw (w:World) (hf:Fam w0 w l) (hi:l[i]?=some (GoA b c)) (h:c.Ok) (k:Int) (d:Option Addr) (n vc:Nat) (y:List Bool) (hn:y.length=n) (hl:n<=1000000) (hv:∀ z,Fam w0 z (l.set i NoA)->aBt z (.slice d n vc) y):Calls prog 92 #[.pointer (some ⟨b,0,none⟩),.int .i64 k,.slice d n vc] w (fun e w'=>e=.returned (.tuple #[.int .i64 (c.aH k y).1,.int .i64 (c.aH k y).2.1])/\Fam w0 w' (l.set i (GoA b ((c.aH k y).2.2)))):=
 GoA.wrap hf hi fun x hx h0=>zM w h0 hx h k d n vc y hn hl (fun z _ _ h=>hv z (Fam.rest h))
theorem aBL (w:World) (z:Fam w0 w l) (d:l[i]?=some (GoA b c)) (h:c.Ok) (k a n:Int):Calls prog 93 #[.pointer (some ⟨b,0,none⟩),.int .i64 k,.int .i64 a,.int .i64 n] w (fun e w'=>e=.returned (.tuple #[.int .i64 (c.aG k a n).1,.int .i64 (c.aG k a n).2.1])/\Fam w0 w' (l.set i (GoA b ((c.aG k a n).2.2)))):=
 GoA.wrap z d fun x hx y=>aAD w y hx h k a n
theorem aGZ (w:World) (d:Fam w0 w l) (hi:l[i]?=some (GoA b c)) (h:c.Okc) (y s v:Int):Calls prog 94 #[.pointer (some ⟨b,0,none⟩),.int .i64 y,.int .i64 s,.int .i64 v] w (fun e w'=>e=.returned (.int .i64 (c.store y s v).1)/\Fam w0 w' (l.set i (GoA b ((c.store y s v).2)))):=
 GoA.wrap d hi fun x hx z=>aHH w z hx h y s v
theorem aHa (w:World) (d:Fam w0 w l) (hi:l[i]?=some (GoA b c)) (h:c.Okc) (k y g:Int):Calls prog 100 #[.pointer (some ⟨b,0,none⟩),.int .i64 k,.int .i64 y,.int .i64 g] w (fun e w'=>e=.returned (.tuple #[.int .i64 (c.refer k y g).1,.int .i64 (c.refer k y g).2.1])/\Fam w0 w' (l.set i (GoA b ((c.refer k y g).2.2)))):=
 GoA.wrap d hi fun x hx z=>aHJ w z hx h k y g
theorem aEE (w:World) (d:Fam w0 w l) (hi:l[i]?=some (GoA b c)) (h:c.Okc) (y:Int):Calls prog 101 #[.pointer (some ⟨b,0,none⟩),.int .i64 y] w (fun e w'=>e=.returned (.tuple #[.int .i64 (c.target y).1,.int .i64 (c.target y).2.1])/\Fam w0 w' (l.set i (GoA b ((c.target y).2.2)))):=
 GoA.wrap d hi fun x hx z=>aEZ w z hx h y
theorem aJx (w:World) (z:Fam w0 w l) (d:l[i]?=some (GoA b c)) (h:c.Okc):Calls prog 102 #[.pointer (some ⟨b,0,none⟩)] w (fun e w'=>e=.returned (.tuple #[.int .i64 (c.take).1,.int .i64 (c.take).2.1])/\Fam w0 w' (l.set i (GoA b (c.take.2.2)))):=
 GoA.wrap z d fun x hx y=>aHG w y hx h
theorem aHc (w:World) (hf:Fam w0 w l) (hi:l[i]?=some (GoA b c)) (h:c.Okc) (a:Option Addr) (n z:Nat) (y:List Int) (hl:y.length=n) (hn:n<=1000000) (hr:∀ wx,Fam w0 wx (l.set i NoA)->mY wx (.slice a n z) y):Calls prog 98 #[.pointer (some ⟨b,0,none⟩),.slice a n z] w (fun e w'=>e=.returned (.int .i64 (c.begin y).1)/\Fam w0 w' (l.set i (GoA b ((c.begin y).2)))):=
 GoA.wrap hf hi fun x hx d=>aFf w d hx h a n z y hl hn hr
theorem aMl (w:World) (d:Fam w0 w l) (hi:l[i]?=some (GoA b c)) (h:c.Okc) (y s:Int):Calls prog 99 #[.pointer (some ⟨b,0,none⟩),.int .i64 y,.int .i64 s] w (fun e w'=>e=.returned (.tuple #[.int .i64 (c.get y s).1,.int .i64 (c.get y s).2])/\Only [] w w'):=by
 obtain ⟨x,hx,z⟩:=GoA.open d hi;exact aKw w z hx h y s
end
def aPQ (c:Int) (i:Nat):Bool:=bits BinOp.and IntKind.i64 (c / 2 ^ i) 1 == 1
def aIB (b:Int):Nat:=min b.toNat 9
def aAE (c:Int) (k:Nat):List Bool:=(List.range k).map (aPQ c)
def dG (b c:Int):List Bool:=aAE c (aIB b)
theorem zZ (c:Int) (k:Nat):(aAE c k).length=k:=by simp [aAE]
theorem aHW (c:Int) (k:Nat):aAE c (k+1)=aAE c k ++ [aPQ c k]:=by simp [aAE,List.range_succ]
theorem aKZ (b:Int):aIB b<=9:=Nat.min_le_right _ _
def rH (c:Int):Nat->List Int
 | 0=>[]
 | k+1=>rH c k ++ if aPQ c (k+1)=true then [(k:Int)+1] else []
theorem aAP (c:Int) (k:Nat):rH c (k+1)=rH c k ++ if aPQ c (k+1)=true then [(k:Int)+1] else []:=rfl
def dJ (c:Int):List Int:=rH c 40
theorem nT (c:Int):∀ k,(rH c k).length<=k
 | 0=>Nat.le_refl _
 | k+1=>by
  unfold rH;rw [List.length_append];have:=nT c k;split<;>simp<;>omega
theorem aCS {c:Int} {x:Int}:∀ {k:Nat},x∈rH c k->1<=x/\x<=(k:Int)
 | 0,h=>by cases h
 | k+1,h=>by
  unfold rH at h;rcases List.mem_append.1 h with h|h
  ·have:=aCS h;omega
  split at h
  ·simp at h;omega
  cases h
theorem aHV (w:World) (b c:Int):Calls prog 91 #[.int .i64 b,.int .i64 c] w (fun e w'=>∃ v,e=.returned v/\Bls w' w.heap.size v (dG b c)/\Only [] w w'):=by
 refine aF fun R hR=>?_;go_in;go_wp2;go_loopw [5,6] (fun vv iv wr=>∃ k:Nat,k<=aIB b/\iv=.int .i64 k/\Bls wr w.heap.size vv (aAE c k)/\Only [] w wr) (fun _ iv _=>aIB b - (intOf iv).toNat)
 case atStart=>exact ⟨0,by omega,rfl,Bls.nil _ _,Only.refl _ _⟩
 case round=>
  obtain ⟨k,hk,rfl,hi,ho⟩:=hrel;have HI:=aA hi;have HO:=aA ho;obtain ⟨va,vc,h2⟩:=hi.len;rw [zZ] at h2;subst h2;clear hi ho
  by_cases h9:(k:Int)<b
  ·by_cases h8:(k:Int)<9
   ·have h6:(0:Int)<=k:=by omega
    have y:k<aIB b:=by unfold aIB;omega
    have d:Hid ((bits BinOp.and IntKind.i64 (c / 2 ^ k) 1 == 1)=aPQ c k):=rfl;have h7:k<=9:=Nat.le_trans hk (aKZ b);go_wp2_with (at_builtin;refine vK rfl _ _ rfl w.heap.size _ _ rfl (HI.o.alloc _) wr.heap.size (bits BinOp.and IntKind.i64 (c / 2 ^ k) 1 == 1) rfl ?c1 ?c2 ?c3 ?c4)
    case c1=>exact (Row.new wr _ [_]).cell 0 rfl
    case c2=>rw [zZ];omega
    case c3=>have:=HO.o.size;simp;omega
    case c4=>
     intro v' w3 h0 h1 h5;have h4:Hid (Only [] w w3):=by
      exact (HO.o.alloc _).trans h1 (fun z hz=>.inr (HI.o.own z (jM hz)).1)
     have h3:Hid (Bls w3 w.heap.size v' (aAE c (k+1))):=by
      show Bls _ _ _ _;rw [aHW,<-d.o];exact h0
     clear h0 h1 h5 d;go_wp2;exact ⟨⟨k+1,by omega,by go_num,h3.o,h4.o⟩,by simp [intOf];omega⟩
   have y:k=aIB b:=by unfold aIB at hk ⊢;omega
   have HE:Hid (Bls wr w.heap.size (.slice va k vc) (dG b c)):=by show Bls _ _ _ (aAE c (aIB b));rw [<-y];exact HI.o
   clear y;go_wp2;exact hR.o _ _ ⟨_,rfl,HE.o,HO.o⟩
  have y:k=aIB b:=by unfold aIB at hk ⊢;omega
  have HE:Hid (Bls wr w.heap.size (.slice va k vc) (dG b c)):=by show Bls _ _ _ (aAE c (aIB b));rw [<-y];exact HI.o
  clear y;go_wp2;exact hR.o _ _ ⟨_,rfl,HE.o,HO.o⟩
theorem yD (w:World) (c:Int):Calls prog 57 #[.int .i64 c] w (aOb w (dJ c)):=by
 refine aF fun R hR=>?_;go_in;go_wp2;go_loopw [3,4] (fun vv iv wr=>∃ k:Nat,k<=40/\iv=.int .i64 ((k:Int)+1)/\aN wr w.heap.size vv (rH c k)/\Only [] w wr) (fun _ iv _=>41 - (intOf iv).toNat)
 case atStart=>exact ⟨0,by omega,rfl,aN.nil _ _,Only.refl _ _⟩
 case round=>
  obtain ⟨k,hk,rfl,hi,ho⟩:=hrel;have HI:=aA hi;have HO:=aA ho;obtain ⟨va,vc,h7⟩:=hi.len;obtain ⟨n,hn⟩:∃ n,n=(rH c k).length:=⟨_,rfl⟩;have x5:n<=k:=by rw [hn];exact nT c k
  rw [<-hn] at h7;have HN:=aA hn;subst h7;clear hi ho hn
  by_cases x4:k<40
  ·have h8:(k:Int)+1<=40:=by omega
   have x2:(0:Int)<=(k:Int)+1:=by omega
   obtain ⟨e,y⟩:∃ e:Nat,(k:Int)+1=(e:Int):=⟨k+1,by omega⟩;have d:e=k+1:=by omega
   rw [y] at h8 x2;have h2:=aA y;have h3:=aA d
   cases hb:aPQ c (k+1) with
   | true=>
    have h4:Hid (rH c (k+1)=rH c k ++ [(e:Int)]):=by show _=_;rw [<-y,aAP,if_pos hb]
    have h1:(bits BinOp.and IntKind.i64 (c / 2 ^ e) 1 == 1)=true:=by rw [d];exact hb
    have x3:(bits BinOp.and IntKind.i64 (c / 2 ^ e) 1 == 1)=true:=h1;rw [y];clear hb h1 y d;go_wp2_with (at_builtin;refine bH rfl _ _ rfl w.heap.size _ _ rfl (HI.o.alloc _) wr.heap.size (e:Int) rfl ?c1 ?c2 ?c3 ?c4)
    case c1=>exact (Row.new wr _ [_]).cell 0 rfl
    case c2=>have:=HN.o;omega
    case c3=>have:=HO.o.size;simp;omega
    case c4=>
     intro v' w3 h5 h6 x1;have h9:Hid (Only [] w w3):=by
      exact (HO.o.alloc _).trans h6 (fun z hz=>.inr (HI.o.own z (jM hz)).1)
     have h0:Hid (aN w3 w.heap.size v' (rH c (k+1))):=by
      show aN _ _ _ _;rw [h4.o];exact h5
     clear h5 h6 x1 h4;go_wp2;exact ⟨⟨k+1,by omega,by rw [<-h2.o];go_num,h0.o,h9.o⟩,by have:=h3.o;simp [intOf];omega⟩
   | false=>
    have h0:Hid (aN wr w.heap.size (.slice va n vc) (rH c (k+1))):=by
     show aN _ _ _ _;rw [aAP,if_neg (by rw [hb];decide),List.append_nil];exact HI.o
    have h1:(bits BinOp.and IntKind.i64 (c / 2 ^ e) 1 == 1)=false:=by rw [d];exact hb
    rw [y];clear hb y d;go_wp2;exact ⟨⟨k+1,by omega,by rw [<-h2.o];go_num,h0.o,HO.o⟩,by have:=h3.o;simp [intOf];omega⟩
  obtain rfl:k=40:=by omega
  have HE:Hid (aN wr w.heap.size (.slice va n vc) (dJ c)):=HI.o;clear HI HN;go_wp2;exact hR.o _ _ ⟨_,rfl,HE.o,HO.o⟩
theorem aIm (w:World) (v1 v2:Value) (l:List Int) (h1:mY w v1 l) (h2:mY w v2 l) (hl:l.length<=1000) :
  Calls prog 61 #[v1,v2] w (fun e w'=>e=.returned (.bool true)/\Only [] w w'):=by
 refine aF fun R hR=>?_;obtain ⟨a1,c1,rfl⟩:=h1.len;obtain ⟨a2,c2,rfl⟩:=h2.len;have H1:=aA h1;have H2:=aA h2;obtain ⟨n,hn⟩:∃ n,n=l.length:=⟨_,rfl⟩;rw [<-hn] at hl H1 H2 ⊢;have HN:=aA hn;clear h1 h2 hn;go_in;go_wp2;go_loopw [5] (fun iv wr=>∃ k m:Nat,k<=n/\iv=.int .i64 k/\wr=w.drewN m) (fun iv _=>n - (intOf iv).toNat)
 case atStart=>exact ⟨0,0,by omega,rfl,rfl⟩
 case round=>
  obtain ⟨k,m,hk,rfl,rfl⟩:=hrel
  by_cases h4:k<n
  ·have y:k<l.length:=by have:=HN.o;omega
   rcases H1.o with ⟨b1,o1,d1,f1,g1⟩|⟨oa,d,f1,g1⟩;rotate_left
   ·rw [g1] at y;simp at y
   rcases H2.o with ⟨b2,o2,d2,f2,g2⟩|⟨oa,d,f2,g2⟩;rotate_left
   ·rw [g2] at y;simp at y
   have e1:a1=some ⟨b1,o1,none⟩:=by cases f1;rfl
   have e2:a2=some ⟨b2,o2,none⟩:=by cases f2;rfl
   subst e1 e2;have k1:=g1 k y;have k2:=g2 k y;have h0:(0:Int)<=k:=by omega
   have h3:(k:Int)<n:=by omega
   generalize gI l k=z at*;clear g1 g2 f1 f2;go_wp2;go_quiet (fail);go_wp2;exact ⟨⟨k+1,_,by omega,by go_num,rfl⟩,by simp [intOf];omega⟩
  obtain rfl:k=n:=by omega
  have HO:Hid (Only [] w (w.drewN m)):=(Only.refl _ _).drewN m;go_wp2;exact hR.o _ _ ⟨rfl,HO.o⟩
def P2 (b g:Nat) (c y:Co) (tl:List Asn):List Asn:=CoA b c :: GoA g y :: tl
set_option maxHeartbeats 12800000
def aNI (v:Value) (l:List Bool):Asn:=
 ⟨fun w S=>Bls w 0 v l/\∀ k,S k↔v.ownBlock=some k,fun h ho hd=>⟨h.1.dB ho (fun k hk x=>hd k x ((h.2 k).2 hk)),h.2⟩,fun h hk=>(h.1.own _ ((h.2 _).1 hk)).2⟩
noncomputable def Co.deed (c:Co) (d a x y:Int):Co:=
 if d=0 then (c.aH a (dG x y)).2.2 else if d=1 then (c.aG a y x).2.2 else if d=2 then (c.store a x y).2
 else if d=3 then c.step.2.2 else if d=4 then (c.fZ a).2.2 else if d=5 then c.finish.2.2.2 else if d=6 then (c.begin (dJ a)).2
 else if d=7 then c else if d=8 then (c.refer a x y).2.2 else if d=9 then (c.target a).2.2 else c.take.2.2
section
variable {w0 w w':World} {l tl:List Asn} {b g:Nat} {c c1 c2:Co} {i:Nat}
theorem Fam.bls {v:Value} {m:List Bool} (h:Fam w0 w l) (i:Nat) (z:l[i]?=some (aNI v m)):Bls w 0 v m:=by
 obtain ⟨S,y,_⟩:=h.get i z;exact y.1
theorem Fam.aQW {v:Value} {m:List Bool} (h:Fam w0 w l) (z:Only [] w w') (y:Bls w' w.heap.size v m):Fam w0 w' (l ++ [aNI v m]):=
 h.add ⟨z,fun k=>v.ownBlock=some k,⟨y.base (Nat.zero_le _),fun k=>Iff.rfl⟩,fun k hk=>(y.own k hk).1⟩
def DA (z:Nat) (d a x y:Int):Asn:=eY z 80 [.int .i64 d,.int .i64 a,.int .i64 x,.int .i64 y]
theorem P2.deed (z:Fam w0 w (P2 b g c1 c2 tl)) (d a x y:Int):Fam w0 (w.alloc (.cells #[.int .i64 d,.int .i64 a,.int .i64 x,.int .i64 y] 80)) (P2 b g c1 c2 (tl ++ [DA w.heap.size d a x y])):=z.addRow 80 [.int .i64 d,.int .i64 a,.int .i64 x,.int .i64 y]
theorem P2.at {A:Asn}:(P2 b g c1 c2 (tl ++ [A]))[2+tl.length]?=some A:=by
 rw [Nat.add_comm 2];show (_ :: _ :: (tl ++ [A]))[tl.length+2]?=_;simp only [List.getElem?_cons_succ];exact jR _ _
theorem P2.at1 {A B:Asn}:(P2 b g c1 c2 (tl ++ [A] ++ [B]))[2+tl.length]?=some A:=by
 rw [Nat.add_comm 2];show (_ :: _ :: (tl ++ [A] ++ [B]))[tl.length+2]?=_;simp only [List.getElem?_cons_succ];exact rZ (jR _ _)
theorem P2.row {z:Nat} {d a x y:Int} (e:Fam w0 w (P2 b g c1 c2 (tl ++ [DA z d a x y]))):w.cell? ⟨z,0,none⟩=some (.int .i64 d)/\w.cell? ⟨z,1,none⟩=some (.int .i64 a)/\w.cell? ⟨z,2,none⟩=some (.int .i64 x)/\w.cell? ⟨z,3,none⟩=some (.int .i64 y):=by
 have r:=e.row (2+tl.length) P2.at
 exact ⟨r.cell 0 rfl,r.cell 1 rfl,r.cell 2 rfl,r.cell 3 rfl⟩
theorem P2.aPL {z:Nat} {d a x y:Int} {B:Asn} (e:Fam w0 w (P2 b g c1 c2 (tl ++ [DA z d a x y] ++ [B]))):w.cell? ⟨z,0,none⟩=some (.int .i64 d)/\w.cell? ⟨z,1,none⟩=some (.int .i64 a)/\w.cell? ⟨z,2,none⟩=some (.int .i64 x)/\w.cell? ⟨z,3,none⟩=some (.int .i64 y):=by
 have r:=e.row (2+tl.length) P2.at1;exact ⟨r.cell 0 rfl,r.cell 1 rfl,r.cell 2 rfl,r.cell 3 rfl⟩
theorem P2.pop {A:Asn} (y:Fam w0 w (P2 b g c1 c2 (tl ++ [A]))):Fam w0 w (P2 b g c1 c2 tl):=by
 have h:Fam w0 w (P2 b g c1 c2 tl ++ [A]):=y;exact h.pop
def CDo (w0:World) (b g:Nat) (tl:List Asn) (y:Co) (e:Ending) (w':World):Prop:=e=.returned (.bool true)/\Fam w0 w' (P2 b g y y tl)
theorem aSQ (w:World) (hf:Fam w0 w (P2 b g c c tl)) (h:c.Ok) (a x y:Int) (wa:wfI a) (h2:wfI x) (wy:wfI y):Calls prog 37 #[.pointer (some ⟨b,0,none⟩),.pointer (some ⟨g,0,none⟩),.agg #[.int .i64 1,.int .i64 a,.int .i64 x,.int .i64 y]] w (CDo w0 b g tl (c.deed 1 a x y)):=by
 refine aF fun R hR=>?_;have h0:c.deed 1 a x y=(c.aG a y x).2.2:=rfl;rw [h0] at hR;have F0:=aA (P2.deed hf 1 a x y);obtain ⟨wo,d⟩:∃ wo,wo=w.heap.size:=⟨_,rfl⟩;rw [<-d] at F0;have h1:=aA d;have HP:Hid (∀ z,Fam w0 z (P2 b g c c (tl ++ [DA wo 1 a x y]))->Calls prog 46 #[.pointer (some ⟨b,0,none⟩),.int .i64 a,.int .i64 y,.int .i64 x] z (fun e w'=>e=.returned (.tuple #[.int .i64 (c.aG a y x).1,.int .i64 (c.aG a y x).2.1])/\Fam w0 w' (P2 b g ((c.aG a y x).2.2) c (tl ++ [DA wo 1 a x y])))):=fun z hx=>aCi z hx (i:=0) rfl h a y x;have HQ:Hid (∀ z,Fam w0 z (P2 b g ((c.aG a y x).2.2) c (tl ++ [DA wo 1 a x y]))->Calls prog 93 #[.pointer (some ⟨g,0,none⟩),.int .i64 a,.int .i64 y,.int .i64 x] z (fun e w'=>e=.returned (.tuple #[.int .i64 (c.aG a y x).1,.int .i64 (c.aG a y x).2.1])/\Fam w0 w' (P2 b g ((c.aG a y x).2.2) ((c.aG a y x).2.2) (tl ++ [DA wo 1 a x y])))):=fun z hx=>aBL z hx (i:=1) rfl h a y x;clear hf h wa h2 wy d h0;generalize c.aG a y x=rr at*;obtain ⟨r1,r2,r3⟩:=rr;go_in;go_upto_region 1 with fail;rw [<-h1.o];generalize w.alloc (.cells #[.int .i64 1,.int .i64 a,.int .i64 x,.int .i64 y] 80)=w1 at*;obtain ⟨o0,o1,o2,o3⟩:=P2.row F0.o;go_wp2_with fail;refine (HP.o _ F0.o).mono ?_;rintro e w3 ⟨rfl,f3⟩;have F3:=aA f3;clear f3 HP F0 o0 o1 o2 o3;obtain ⟨o0,o1,o2,o3⟩:=P2.row F3.o;go_wp2_with fail;refine (HQ.o _ F3.o).mono ?_;rintro e w4 ⟨rfl,f4⟩;have HE:=aA (P2.pop f4);clear f4 HQ F3 o0 o1 o2 o3;go_wp2;exact hR.o _ _ ⟨rfl,HE.o⟩
theorem aSP (w:World) (hf:Fam w0 w (P2 b g c c tl)) (h:c.Ok) (a x y:Int) (wa:wfI a) (h2:wfI x) (wy:wfI y):Calls prog 37 #[.pointer (some ⟨b,0,none⟩),.pointer (some ⟨g,0,none⟩),.agg #[.int .i64 2,.int .i64 a,.int .i64 x,.int .i64 y]] w (CDo w0 b g tl (c.deed 2 a x y)):=by
 refine aF fun R hR=>?_;have h0:c.deed 2 a x y=(c.store a x y).2:=rfl;rw [h0] at hR;have F0:=aA (P2.deed hf 2 a x y);obtain ⟨wo,d⟩:∃ wo,wo=w.heap.size:=⟨_,rfl⟩;rw [<-d] at F0;have h1:=aA d;have HP:Hid (∀ z,Fam w0 z (P2 b g c c (tl ++ [DA wo 2 a x y]))->Calls prog 52 #[.pointer (some ⟨b,0,none⟩),.int .i64 a,.int .i64 x,.int .i64 y] z (fun e w'=>e=.returned (.int .i64 (c.store a x y).1)/\Fam w0 w' (P2 b g ((c.store a x y).2) c (tl ++ [DA wo 2 a x y])))):=fun z hx=>aHY z hx (i:=0) rfl h.k a x y wa wy;have HQ:Hid (∀ z,Fam w0 z (P2 b g ((c.store a x y).2) c (tl ++ [DA wo 2 a x y]))->Calls prog 94 #[.pointer (some ⟨g,0,none⟩),.int .i64 a,.int .i64 x,.int .i64 y] z (fun e w'=>e=.returned (.int .i64 (c.store a x y).1)/\Fam w0 w' (P2 b g ((c.store a x y).2) ((c.store a x y).2) (tl ++ [DA wo 2 a x y])))):=fun z hx=>aGZ z hx (i:=1) rfl h.k a x y;clear hf h wa h2 wy d h0;generalize c.store a x y=rr at*;obtain ⟨r1,r2⟩:=rr;go_in;go_upto_region 1 with fail;rw [<-h1.o];generalize w.alloc (.cells #[.int .i64 2,.int .i64 a,.int .i64 x,.int .i64 y] 80)=w1 at*;obtain ⟨o0,o1,o2,o3⟩:=P2.row F0.o;go_wp2_with fail;refine (HP.o _ F0.o).mono ?_;rintro e w3 ⟨rfl,f3⟩;have F3:=aA f3;clear f3 HP F0 o0 o1 o2 o3;obtain ⟨o0,o1,o2,o3⟩:=P2.row F3.o;go_wp2_with fail;refine (HQ.o _ F3.o).mono ?_;rintro e w4 ⟨rfl,f4⟩;have HE:=aA (P2.pop f4);clear f4 HQ F3 o0 o1 o2 o3;go_wp2;exact hR.o _ _ ⟨rfl,HE.o⟩
theorem aSO (w:World) (hf:Fam w0 w (P2 b g c c tl)) (h:c.Ok) (a x y:Int) (wa:wfI a) (h2:wfI x) (wy:wfI y):Calls prog 37 #[.pointer (some ⟨b,0,none⟩),.pointer (some ⟨g,0,none⟩),.agg #[.int .i64 3,.int .i64 a,.int .i64 x,.int .i64 y]] w (CDo w0 b g tl (c.deed 3 a x y)):=by
 refine aF fun R hR=>?_;have h0:c.deed 3 a x y=c.step.2.2:=rfl;rw [h0] at hR;have F0:=aA (P2.deed hf 3 a x y);obtain ⟨wo,d⟩:∃ wo,wo=w.heap.size:=⟨_,rfl⟩;rw [<-d] at F0;have h1:=aA d;have HP:Hid (∀ z,Fam w0 z (P2 b g c c (tl ++ [DA wo 3 a x y]))->Calls prog 41 #[.pointer (some ⟨b,0,none⟩)] z (fun e w'=>e=.returned (.tuple #[.int .i64 (c.step).1,.int .i64 (c.step).2.1])/\Fam w0 w' (P2 b g (c.step.2.2) c (tl ++ [DA wo 3 a x y])))):=fun z hx=>aKR z hx (i:=0) rfl h.k;have HQ:Hid (∀ z,Fam w0 z (P2 b g (c.step.2.2) c (tl ++ [DA wo 3 a x y]))->Calls prog 95 #[.pointer (some ⟨g,0,none⟩)] z (fun e w'=>e=.returned (.tuple #[.int .i64 (c.step).1,.int .i64 (c.step).2.1])/\Fam w0 w' (P2 b g (c.step.2.2) (c.step.2.2) (tl ++ [DA wo 3 a x y])))):=fun z hx=>aJy z hx (i:=1) rfl h.k;clear hf h wa h2 wy d h0;generalize c.step=rr at*;obtain ⟨r1,r2,r3⟩:=rr;go_in;go_upto_region 1 with fail;rw [<-h1.o];generalize w.alloc (.cells #[.int .i64 3,.int .i64 a,.int .i64 x,.int .i64 y] 80)=w1 at*;obtain ⟨o0,o1,o2,o3⟩:=P2.row F0.o;go_wp2_with fail;refine (HP.o _ F0.o).mono ?_;rintro e w3 ⟨rfl,f3⟩;have F3:=aA f3;clear f3 HP F0 o0 o1 o2 o3;obtain ⟨o0,o1,o2,o3⟩:=P2.row F3.o;go_wp2_with fail;refine (HQ.o _ F3.o).mono ?_;rintro e w4 ⟨rfl,f4⟩;have HE:=aA (P2.pop f4);clear f4 HQ F3 o0 o1 o2 o3;go_wp2;exact hR.o _ _ ⟨rfl,HE.o⟩
theorem aSN (w:World) (hf:Fam w0 w (P2 b g c c tl)) (h:c.Ok) (a x y:Int) (wa:wfI a) (h2:wfI x) (wy:wfI y):Calls prog 37 #[.pointer (some ⟨b,0,none⟩),.pointer (some ⟨g,0,none⟩),.agg #[.int .i64 4,.int .i64 a,.int .i64 x,.int .i64 y]] w (CDo w0 b g tl (c.deed 4 a x y)):=by
 refine aF fun R hR=>?_;have h0:c.deed 4 a x y=(c.fZ a).2.2:=rfl;rw [h0] at hR;have F0:=aA (P2.deed hf 4 a x y);obtain ⟨wo,d⟩:∃ wo,wo=w.heap.size:=⟨_,rfl⟩;rw [<-d] at F0;have h1:=aA d;have HP:Hid (∀ z,Fam w0 z (P2 b g c c (tl ++ [DA wo 4 a x y]))->Calls prog 43 #[.pointer (some ⟨b,0,none⟩),.int .i64 a] z (fun e w'=>e=.returned (.tuple #[.int .i64 (c.fZ a).1,.int .i64 (c.fZ a).2.1])/\Fam w0 w' (P2 b g ((c.fZ a).2.2) c (tl ++ [DA wo 4 a x y])))):=fun z hx=>aIn z hx (i:=0) rfl h a;have HQ:Hid (∀ z,Fam w0 z (P2 b g ((c.fZ a).2.2) c (tl ++ [DA wo 4 a x y]))->Calls prog 96 #[.pointer (some ⟨g,0,none⟩),.int .i64 a] z (fun e w'=>e=.returned (.tuple #[.int .i64 (c.fZ a).1,.int .i64 (c.fZ a).2.1])/\Fam w0 w' (P2 b g ((c.fZ a).2.2) ((c.fZ a).2.2) (tl ++ [DA wo 4 a x y])))):=fun z hx=>aHb z hx (i:=1) rfl h a;clear hf h wa h2 wy d h0;generalize c.fZ a=rr at*;obtain ⟨r1,r2,r3⟩:=rr;go_in;go_upto_region 1 with fail;rw [<-h1.o];generalize w.alloc (.cells #[.int .i64 4,.int .i64 a,.int .i64 x,.int .i64 y] 80)=w1 at*;obtain ⟨o0,o1,o2,o3⟩:=P2.row F0.o;go_wp2_with fail;refine (HP.o _ F0.o).mono ?_;rintro e w3 ⟨rfl,f3⟩;have F3:=aA f3;clear f3 HP F0 o0 o1 o2 o3;obtain ⟨o0,o1,o2,o3⟩:=P2.row F3.o;go_wp2_with fail;refine (HQ.o _ F3.o).mono ?_;rintro e w4 ⟨rfl,f4⟩;have HE:=aA (P2.pop f4);clear f4 HQ F3 o0 o1 o2 o3;go_wp2;exact hR.o _ _ ⟨rfl,HE.o⟩
theorem aSM (w:World) (hf:Fam w0 w (P2 b g c c tl)) (h:c.Ok) (a x y:Int) (wa:wfI a) (h2:wfI x) (wy:wfI y):Calls prog 37 #[.pointer (some ⟨b,0,none⟩),.pointer (some ⟨g,0,none⟩),.agg #[.int .i64 5,.int .i64 a,.int .i64 x,.int .i64 y]] w (CDo w0 b g tl (c.deed 5 a x y)):=by
 refine aF fun R hR=>?_;have h0:c.deed 5 a x y=c.finish.2.2.2:=rfl;rw [h0] at hR;have F0:=aA (P2.deed hf 5 a x y);obtain ⟨wo,d⟩:∃ wo,wo=w.heap.size:=⟨_,rfl⟩;rw [<-d] at F0;have h1:=aA d;have HP:Hid (∀ z,Fam w0 z (P2 b g c c (tl ++ [DA wo 5 a x y]))->Calls prog 44 #[.pointer (some ⟨b,0,none⟩)] z (fun e w'=>e=.returned (.tuple #[.int .i64 c.finish.1,.int .i64 c.finish.2.1,.int .i64 c.finish.2.2.1])/\Fam w0 w' (P2 b g (c.finish.2.2.2) c (tl ++ [DA wo 5 a x y])))):=fun z hx=>mP z hx (i:=0) rfl h.k;have HQ:Hid (∀ z,Fam w0 z (P2 b g (c.finish.2.2.2) c (tl ++ [DA wo 5 a x y]))->Calls prog 97 #[.pointer (some ⟨g,0,none⟩)] z (fun e w'=>e=.returned (.tuple #[.int .i64 c.finish.1,.int .i64 c.finish.2.1,.int .i64 c.finish.2.2.1])/\Fam w0 w' (P2 b g (c.finish.2.2.2) (c.finish.2.2.2) (tl ++ [DA wo 5 a x y])))):=fun z hx=>yI z hx (i:=1) rfl h.k;clear hf h wa h2 wy d h0;generalize c.finish=rr at*;obtain ⟨r1,r2,r3,r4⟩:=rr;go_in;go_upto_region 1 with fail;rw [<-h1.o];generalize w.alloc (.cells #[.int .i64 5,.int .i64 a,.int .i64 x,.int .i64 y] 80)=w1 at*;obtain ⟨o0,o1,o2,o3⟩:=P2.row F0.o;go_wp2_with fail;refine (HP.o _ F0.o).mono ?_;rintro e w3 ⟨rfl,f3⟩;have F3:=aA f3;clear f3 HP F0 o0 o1 o2 o3;obtain ⟨o0,o1,o2,o3⟩:=P2.row F3.o;go_wp2_with fail;refine (HQ.o _ F3.o).mono ?_;rintro e w4 ⟨rfl,f4⟩;have HE:=aA (P2.pop f4);clear f4 HQ F3 o0 o1 o2 o3;go_wp2;exact hR.o _ _ ⟨rfl,HE.o⟩
theorem aSJ (w:World) (hf:Fam w0 w (P2 b g c c tl)) (h:c.Ok) (a x y:Int) (wa:wfI a) (h1:wfI x) (wy:wfI y):Calls prog 37 #[.pointer (some ⟨b,0,none⟩),.pointer (some ⟨g,0,none⟩),.agg #[.int .i64 8,.int .i64 a,.int .i64 x,.int .i64 y]] w (CDo w0 b g tl (c.deed 8 a x y)):=by
 refine aF fun R hR=>?_;have h0:c.deed 8 a x y=(c.refer a x y).2.2:=rfl;rw [h0] at hR;have F0:=aA (P2.deed hf 8 a x y);obtain ⟨wo,d⟩:∃ wo,wo=w.heap.size:=⟨_,rfl⟩;rw [<-d] at F0;have h2:=aA d;have HP:Hid (∀ z,Fam w0 z (P2 b g c c (tl ++ [DA wo 8 a x y]))->Calls prog 48 #[.pointer (some ⟨b,0,none⟩),.int .i64 a,.int .i64 x,.int .i64 y] z (fun e w'=>e=.returned (.tuple #[.int .i64 (c.refer a x y).1,.int .i64 (c.refer a x y).2.1])/\Fam w0 w' (P2 b g ((c.refer a x y).2.2) c (tl ++ [DA wo 8 a x y])))):=fun z hx=>aIa z hx (i:=0) rfl h.k a x y h1;have HQ:Hid (∀ z,Fam w0 z (P2 b g ((c.refer a x y).2.2) c (tl ++ [DA wo 8 a x y]))->Calls prog 100 #[.pointer (some ⟨g,0,none⟩),.int .i64 a,.int .i64 x,.int .i64 y] z (fun e w'=>e=.returned (.tuple #[.int .i64 (c.refer a x y).1,.int .i64 (c.refer a x y).2.1])/\Fam w0 w' (P2 b g ((c.refer a x y).2.2) ((c.refer a x y).2.2) (tl ++ [DA wo 8 a x y])))):=fun z hx=>aHa z hx (i:=1) rfl h.k a x y;clear hf h wa h1 wy d h0;generalize c.refer a x y=rr at*;obtain ⟨r1,r2,r3⟩:=rr;go_in;go_upto_region 1 with fail;rw [<-h2.o];generalize w.alloc (.cells #[.int .i64 8,.int .i64 a,.int .i64 x,.int .i64 y] 80)=w1 at*;obtain ⟨o0,o1,o2,o3⟩:=P2.row F0.o;go_wp2_with fail;refine (HP.o _ F0.o).mono ?_;rintro e w3 ⟨rfl,f3⟩;have F3:=aA f3;clear f3 HP F0 o0 o1 o2 o3;obtain ⟨o0,o1,o2,o3⟩:=P2.row F3.o;go_wp2_with fail;refine (HQ.o _ F3.o).mono ?_;rintro e w4 ⟨rfl,f4⟩;have HE:=aA (P2.pop f4);clear f4 HQ F3 o0 o1 o2 o3;go_wp2;exact hR.o _ _ ⟨rfl,HE.o⟩
theorem aSI (w:World) (hf:Fam w0 w (P2 b g c c tl)) (h:c.Ok) (a x y:Int) (wa:wfI a) (h2:wfI x) (wy:wfI y):Calls prog 37 #[.pointer (some ⟨b,0,none⟩),.pointer (some ⟨g,0,none⟩),.agg #[.int .i64 9,.int .i64 a,.int .i64 x,.int .i64 y]] w (CDo w0 b g tl (c.deed 9 a x y)):=by
 refine aF fun R hR=>?_;have h0:c.deed 9 a x y=(c.target a).2.2:=rfl;rw [h0] at hR;have F0:=aA (P2.deed hf 9 a x y);obtain ⟨wo,d⟩:∃ wo,wo=w.heap.size:=⟨_,rfl⟩;rw [<-d] at F0;have h1:=aA d;have HP:Hid (∀ z,Fam w0 z (P2 b g c c (tl ++ [DA wo 9 a x y]))->Calls prog 49 #[.pointer (some ⟨b,0,none⟩),.int .i64 a] z (fun e w'=>e=.returned (.tuple #[.int .i64 (c.target a).1,.int .i64 (c.target a).2.1])/\Fam w0 w' (P2 b g ((c.target a).2.2) c (tl ++ [DA wo 9 a x y])))):=fun z hx=>aFj z hx (i:=0) rfl h.k a;have HQ:Hid (∀ z,Fam w0 z (P2 b g ((c.target a).2.2) c (tl ++ [DA wo 9 a x y]))->Calls prog 101 #[.pointer (some ⟨g,0,none⟩),.int .i64 a] z (fun e w'=>e=.returned (.tuple #[.int .i64 (c.target a).1,.int .i64 (c.target a).2.1])/\Fam w0 w' (P2 b g ((c.target a).2.2) ((c.target a).2.2) (tl ++ [DA wo 9 a x y])))):=fun z hx=>aEE z hx (i:=1) rfl h.k a;clear hf h wa h2 wy d h0;generalize c.target a=rr at*;obtain ⟨r1,r2,r3⟩:=rr;go_in;go_upto_region 1 with fail;rw [<-h1.o];generalize w.alloc (.cells #[.int .i64 9,.int .i64 a,.int .i64 x,.int .i64 y] 80)=w1 at*;obtain ⟨o0,o1,o2,o3⟩:=P2.row F0.o;go_wp2_with fail;refine (HP.o _ F0.o).mono ?_;rintro e w3 ⟨rfl,f3⟩;have F3:=aA f3;clear f3 HP F0 o0 o1 o2 o3;obtain ⟨o0,o1,o2,o3⟩:=P2.row F3.o;go_wp2_with fail;refine (HQ.o _ F3.o).mono ?_;rintro e w4 ⟨rfl,f4⟩;have HE:=aA (P2.pop f4);clear f4 HQ F3 o0 o1 o2 o3;go_wp2;exact hR.o _ _ ⟨rfl,HE.o⟩
theorem aSK (w:World) (hf:Fam w0 w (P2 b g c c tl)) (h:c.Ok) (a x y:Int) (wa:wfI a) (h4:wfI x) (wy:wfI y):Calls prog 37 #[.pointer (some ⟨b,0,none⟩),.pointer (some ⟨g,0,none⟩),.agg #[.int .i64 7,.int .i64 a,.int .i64 x,.int .i64 y]] w (CDo w0 b g tl (c.deed 7 a x y)):=by
 refine aF fun R hR=>?_;have h0:c.deed 7 a x y=c:=rfl;rw [h0] at hR;have F0:=aA (P2.deed hf 7 a x y);obtain ⟨wo,d⟩:∃ wo,wo=w.heap.size:=⟨_,rfl⟩;rw [<-d] at F0;have h3:=aA d;have HP:Hid (∀ z,Fam w0 z (P2 b g c c (tl ++ [DA wo 7 a x y]))->Calls prog 47 #[.pointer (some ⟨b,0,none⟩),.int .i64 a,.int .i64 x] z (fun e w'=>e=.returned (.tuple #[.int .i64 (c.get a x).1,.int .i64 (c.get a x).2])/\Fam w0 w' (P2 b g c c (tl ++ [DA wo 7 a x y])))):=fun z hx=>(aNq z hx (i:=0) rfl h.k a x wa).mono fun e w' ⟨h1,n,h2⟩=>⟨h1,by rw [h2];exact hx.drewN n⟩;have HQ:Hid (∀ z,Fam w0 z (P2 b g c c (tl ++ [DA wo 7 a x y]))->Calls prog 99 #[.pointer (some ⟨g,0,none⟩),.int .i64 a,.int .i64 x] z (fun e w'=>e=.returned (.tuple #[.int .i64 (c.get a x).1,.int .i64 (c.get a x).2])/\Fam w0 w' (P2 b g c c (tl ++ [DA wo 7 a x y])))):=fun z hx=>(aMl z hx (i:=1) rfl h.k a x).mono fun e w' ⟨h1,h2⟩=>⟨h1,hx.aK h2⟩;clear hf h wa h4 wy d h0;generalize c.get a x=rr at*;obtain ⟨r1,r2⟩:=rr;go_in;go_upto_region 1 with fail;rw [<-h3.o];generalize w.alloc (.cells #[.int .i64 7,.int .i64 a,.int .i64 x,.int .i64 y] 80)=w1 at*;obtain ⟨o0,o1,o2,o3⟩:=P2.row F0.o;go_wp2_with fail;refine (HP.o _ F0.o).mono ?_;rintro e w3 ⟨rfl,f3⟩;have F3:=aA f3;clear f3 HP F0 o0 o1 o2 o3;obtain ⟨o0,o1,o2,o3⟩:=P2.row F3.o;go_wp2_with fail;refine (HQ.o _ F3.o).mono ?_;rintro e w4 ⟨rfl,f4⟩;have HE:=aA (P2.pop f4);clear f4 HQ F3 o0 o1 o2 o3;go_wp2;exact hR.o _ _ ⟨rfl,HE.o⟩
theorem aQS (w:World) (hf:Fam w0 w (P2 b g c c tl)) (h:c.Ok) (d:Int) (hd:∀ k:Int,0<=k->k<=9->d≠k) (a x y:Int) (wa:wfI a) (h3:wfI x) (wy:wfI y):Calls prog 37 #[.pointer (some ⟨b,0,none⟩),.pointer (some ⟨g,0,none⟩),.agg #[.int .i64 d,.int .i64 a,.int .i64 x,.int .i64 y]] w (CDo w0 b g tl (c.deed d a x y)):=by
 refine aF fun R hR=>?_;have h1:c.deed d a x y=c.take.2.2:=by unfold Co.deed;rw [if_neg (hd 0 (by decide) (by decide)),if_neg (hd 1 (by decide) (by decide)),if_neg (hd 2 (by decide) (by decide)),if_neg (hd 3 (by decide) (by decide)),if_neg (hd 4 (by decide) (by decide)),if_neg (hd 5 (by decide) (by decide)),if_neg (hd 6 (by decide) (by decide)),if_neg (hd 7 (by decide) (by decide)),if_neg (hd 8 (by decide) (by decide)),if_neg (hd 9 (by decide) (by decide))]
 rw [h1] at hR;have F0:=aA (P2.deed hf d a x y);obtain ⟨wo,h0⟩:∃ wo,wo=w.heap.size:=⟨_,rfl⟩;rw [<-h0] at F0;have h2:=aA h0;have HP:Hid (∀ z,Fam w0 z (P2 b g c c (tl ++ [DA wo d a x y]))->Calls prog 50 #[.pointer (some ⟨b,0,none⟩)] z (fun e w'=>e=.returned (.tuple #[.int .i64 (c.take).1,.int .i64 (c.take).2.1])/\Fam w0 w' (P2 b g (c.take.2.2) c (tl ++ [DA wo d a x y])))):=fun z hx=>aKP z hx (i:=0) rfl h.k;have HQ:Hid (∀ z,Fam w0 z (P2 b g (c.take.2.2) c (tl ++ [DA wo d a x y]))->Calls prog 102 #[.pointer (some ⟨g,0,none⟩)] z (fun e w'=>e=.returned (.tuple #[.int .i64 (c.take).1,.int .i64 (c.take).2.1])/\Fam w0 w' (P2 b g (c.take.2.2) (c.take.2.2) (tl ++ [DA wo d a x y])))):=fun z hx=>aJx z hx (i:=1) rfl h.k;have d0:(d == 0)=false:=by rw [beq_eq_false_iff_ne];exact hd 0 (by decide) (by decide)
 have d1:(d == 1)=false:=by rw [beq_eq_false_iff_ne];exact hd 1 (by decide) (by decide)
 have d2:(d == 2)=false:=by rw [beq_eq_false_iff_ne];exact hd 2 (by decide) (by decide)
 have d3:(d == 3)=false:=by rw [beq_eq_false_iff_ne];exact hd 3 (by decide) (by decide)
 have d4:(d == 4)=false:=by rw [beq_eq_false_iff_ne];exact hd 4 (by decide) (by decide)
 have d5:(d == 5)=false:=by rw [beq_eq_false_iff_ne];exact hd 5 (by decide) (by decide)
 have d6:(d == 6)=false:=by rw [beq_eq_false_iff_ne];exact hd 6 (by decide) (by decide)
 have d7:(d == 7)=false:=by rw [beq_eq_false_iff_ne];exact hd 7 (by decide) (by decide)
 have d8:(d == 8)=false:=by rw [beq_eq_false_iff_ne];exact hd 8 (by decide) (by decide)
 have d9:(d == 9)=false:=by rw [beq_eq_false_iff_ne];exact hd 9 (by decide) (by decide)
 clear hf h hd wa h3 wy h0 h1;generalize c.take=rr at*;obtain ⟨r1,r2,r3⟩:=rr;go_in;go_upto_region 1 with fail;rw [<-h2.o];generalize w.alloc (.cells #[.int .i64 d,.int .i64 a,.int .i64 x,.int .i64 y] 80)=w1 at*;obtain ⟨o0,o1,o2,o3⟩:=P2.row F0.o;go_wp2_with fail;refine (HP.o _ F0.o).mono ?_;rintro e w3 ⟨rfl,f3⟩;have F3:=aA f3;clear f3 HP F0 o0 o1 o2 o3;obtain ⟨o0,o1,o2,o3⟩:=P2.row F3.o;go_wp2_with fail;refine (HQ.o _ F3.o).mono ?_;rintro e w4 ⟨rfl,f4⟩;have HE:=aA (P2.pop f4);clear f4 HQ F3 o0 o1 o2 o3;go_wp2;exact hR.o _ _ ⟨rfl,HE.o⟩
theorem aSL (w:World) (hf:Fam w0 w (P2 b g c c tl)) (h:c.Ok) (a x y:Int) (wa:wfI a) (x1:wfI x) (wy:wfI y):Calls prog 37 #[.pointer (some ⟨b,0,none⟩),.pointer (some ⟨g,0,none⟩),.agg #[.int .i64 6,.int .i64 a,.int .i64 x,.int .i64 y]] w (CDo w0 b g tl (c.deed 6 a x y)):=by
 refine aF fun R hR=>?_;have h5:c.deed 6 a x y=(c.begin (dJ a)).2:=rfl;rw [h5] at hR;have F0:=aA (P2.deed hf 6 a x y);obtain ⟨wo,h4⟩:∃ wo,wo=w.heap.size:=⟨_,rfl⟩;rw [<-h4] at F0;have h9:=aA h4;obtain ⟨n,hn⟩:∃ n,n=(dJ a).length:=⟨_,rfl⟩;have HN:=aA hn;have x2:n<=40:=by rw [hn];exact nT a 40
 have h8:Hid (∀ z∈dJ a,wfI z):=fun z hz=>dI (by have:=aCS (k:=40) hz;omega);have h0:Hid (∀ (A1 A2:Asn) (d:Option Addr) (vc:Nat) wx,Fam w0 wx (A1 :: A2 :: (tl ++ [DA wo 6 a x y] ++ [bT (.slice d n vc) (dJ a)]))->mY wx (.slice d n vc) (dJ a)):=fun A1 A2 d vc wx hx=>(hx.ints (3+tl.length) (by
  rw [Nat.add_comm 3];show (_ :: _ :: (tl ++ [DA wo 6 a x y] ++ [bT (.slice d n vc) (dJ a)]))[tl.length+3]?=_;simp only [List.getElem?_cons_succ];have h2:(tl ++ [DA wo 6 a x y]).length=tl.length+1:=by simp
  rw [<-h2];exact jR _ _)).read
 have HP:Hid (∀ (d:Option Addr) (vc:Nat) wx,Fam w0 wx (P2 b g c c (tl ++ [DA wo 6 a x y] ++ [bT (.slice d n vc) (dJ a)]))->Calls prog 51 #[.pointer (some ⟨b,0,none⟩),.slice d n vc] wx (fun e w'=>e=.returned (.int .i64 (c.begin (dJ a)).1)/\Fam w0 w' (P2 b g ((c.begin (dJ a)).2) c (tl ++ [DA wo 6 a x y] ++ [bT (.slice d n vc) (dJ a)])))):=fun d vc wx hx=>vI wx hx (i:=0) rfl h.k d n vc (dJ a) hn.symm (by omega) h8.o (fun wy hy=>h0.o _ _ _ _ wy hy);have HQ:Hid (∀ (d:Option Addr) (vc:Nat) wx,Fam w0 wx (P2 b g ((c.begin (dJ a)).2) c (tl ++ [DA wo 6 a x y] ++ [bT (.slice d n vc) (dJ a)]))->Calls prog 98 #[.pointer (some ⟨g,0,none⟩),.slice d n vc] wx (fun e w'=>e=.returned (.int .i64 (c.begin (dJ a)).1)/\Fam w0 w' (P2 b g ((c.begin (dJ a)).2) ((c.begin (dJ a)).2) (tl ++ [DA wo 6 a x y] ++ [bT (.slice d n vc) (dJ a)])))):=fun d vc wx hx=>aHc wx hx (i:=1) rfl h.k d n vc (dJ a) hn.symm (by omega) (fun wy hy=>h0.o _ _ _ _ wy hy);clear hf h wa x1 wy h4 h5 hn h0;generalize c.begin (dJ a)=rr at*;obtain ⟨r1,r2⟩:=rr;go_in;go_upto_region 1 with fail;rw [<-h9.o];generalize w.alloc (.cells #[.int .i64 6,.int .i64 a,.int .i64 x,.int .i64 y] 80)=w1 at*;obtain ⟨o0,o1,o2,o3⟩:=P2.row F0.o;have cr:=yD w1 a;go_wp2_with fail;go_fit cr;rintro e w2 ⟨v,rfl,h1,h6⟩;obtain ⟨d,vc,hv⟩:=h1.len;rw [<-HN.o] at hv;subst hv;have F2:Hid (Fam w0 w2 (P2 b g c c (tl ++ [DA wo 6 a x y] ++ [bT (.slice d n vc) (dJ a)]))):=F0.o.gY h6 h1;clear cr h1 h6 F0 o0 o1 o2 o3;obtain ⟨o0,o1,o2,o3⟩:=P2.aPL F2.o;go_wp2_with fail;refine (HP.o _ _ _ F2.o).mono ?_;rintro e w3 ⟨rfl,f3⟩;have F3:Hid (Fam w0 w3 (P2 b g r2 c (tl ++ [DA wo 6 a x y]))):=P2.pop f3;clear f3 HP F2 o0 o1 o2 o3;obtain ⟨o0,o1,o2,o3⟩:=P2.row F3.o;have cr:=yD w3 a;go_wp2_with fail;go_fit cr;rintro e w4 ⟨u,rfl,h3,h7⟩;obtain ⟨ua,uc,hu⟩:=h3.len;rw [<-HN.o] at hu;subst hu;have F4:Hid (Fam w0 w4 (P2 b g r2 c (tl ++ [DA wo 6 a x y] ++ [bT (.slice ua n uc) (dJ a)]))):=F3.o.gY h7 h3;clear cr h3 h7 F3 o0 o1 o2 o3;obtain ⟨o0,o1,o2,o3⟩:=P2.aPL F4.o;go_wp2_with fail;refine (HQ.o _ _ _ F4.o).mono ?_;rintro e w5 ⟨rfl,f5⟩;have HE:=aA (P2.pop (P2.pop f5));clear f5 HQ F4 o0 o1 o2 o3;go_wp2;exact hR.o _ _ ⟨rfl,HE.o⟩
theorem aSR (w:World) (hf:Fam w0 w (P2 b g c c tl)) (h:c.Ok) (a x y:Int) (wa:wfI a) (h6:wfI x) (wy:wfI y):Calls prog 37 #[.pointer (some ⟨b,0,none⟩),.pointer (some ⟨g,0,none⟩),.agg #[.int .i64 0,.int .i64 a,.int .i64 x,.int .i64 y]] w (CDo w0 b g tl (c.deed 0 a x y)):=by
 refine aF fun R hR=>?_;have h4:c.deed 0 a x y=(c.aH a (dG x y)).2.2:=rfl;rw [h4] at hR;have F0:=aA (P2.deed hf 0 a x y);obtain ⟨wo,h3⟩:∃ wo,wo=w.heap.size:=⟨_,rfl⟩;rw [<-h3] at F0;have h5:=aA h3;obtain ⟨n,hn⟩:∃ n,n=(dG x y).length:=⟨_,rfl⟩;have HN:=aA hn;have h7:n<=9:=by rw [hn];unfold dG;rw [zZ];exact aKZ x
 have h1:Hid (∀ (A1 A2:Asn) (z:Option Addr) (d:Nat) wx,Fam w0 wx (A1 :: A2 :: (tl ++ [DA wo 0 a x y] ++ [aNI (.slice z n d) (dG x y)]))->aBt wx (.slice z n d) (dG x y)):=fun A1 A2 z d wx hx=>(hx.bls (3+tl.length) (by
  rw [Nat.add_comm 3];show (_ :: _ :: (tl ++ [DA wo 0 a x y] ++ [aNI (.slice z n d) (dG x y)]))[tl.length+3]?=_;simp only [List.getElem?_cons_succ];have h2:(tl ++ [DA wo 0 a x y]).length=tl.length+1:=by simp
  rw [<-h2];exact jR _ _)).aRA
 have h0:Hid (∀ (c1 c2:Co) wx,Fam w0 wx (P2 b g c1 c2 (tl ++ [DA wo 0 a x y]))->Calls prog 91 #[.int .i64 x,.int .i64 y] wx (fun e w'=>∃ z d,e=.returned (.slice z n d)/\Fam w0 w' (P2 b g c1 c2 (tl ++ [DA wo 0 a x y] ++ [aNI (.slice z n d) (dG x y)])))):=fun c1 c2 wx hx=>(aHV wx x y).mono fun e w' ⟨v,he,hb,ho⟩=>by
  obtain ⟨z,d,hv⟩:=hb.len;rw [<-HN.o] at hv;subst hv;exact ⟨z,d,he,hx.aQW ho hb⟩
 have HP:Hid (∀ (z:Option Addr) (d:Nat) wx,Fam w0 wx (P2 b g c c (tl ++ [DA wo 0 a x y] ++ [aNI (.slice z n d) (dG x y)]))->Calls prog 45 #[.pointer (some ⟨b,0,none⟩),.int .i64 a,.slice z n d] wx (fun e w'=>e=.returned (.tuple #[.int .i64 (c.aH a (dG x y)).1,.int .i64 (c.aH a (dG x y)).2.1])/\Fam w0 w' (P2 b g ((c.aH a (dG x y)).2.2) c (tl ++ [DA wo 0 a x y] ++ [aNI (.slice z n d) (dG x y)])))):=fun z d wx hx=>kZ wx hx (i:=0) rfl h a z n d (dG x y) hn.symm (by omega) (fun wy hy=>h1.o _ _ _ _ wy hy);have HQ:Hid (∀ (z:Option Addr) (d:Nat) wx,Fam w0 wx (P2 b g ((c.aH a (dG x y)).2.2) c (tl ++ [DA wo 0 a x y] ++ [aNI (.slice z n d) (dG x y)]))->Calls prog 92 #[.pointer (some ⟨g,0,none⟩),.int .i64 a,.slice z n d] wx (fun e w'=>e=.returned (.tuple #[.int .i64 (c.aH a (dG x y)).1,.int .i64 (c.aH a (dG x y)).2.1])/\Fam w0 w' (P2 b g ((c.aH a (dG x y)).2.2) ((c.aH a (dG x y)).2.2) (tl ++ [DA wo 0 a x y] ++ [aNI (.slice z n d) (dG x y)])))):=fun z d wx hx=>aAw wx hx (i:=1) rfl h a z n d (dG x y) hn.symm (by omega) (fun wy hy=>h1.o _ _ _ _ wy hy);clear hf h wa h6 wy h3 h4 hn h1;generalize c.aH a (dG x y)=rr at*;obtain ⟨r1,r2,r3⟩:=rr;go_in;go_upto_region 1 with fail;rw [<-h5.o];generalize w.alloc (.cells #[.int .i64 0,.int .i64 a,.int .i64 x,.int .i64 y] 80)=w1 at*;obtain ⟨o0,o1,o2,o3⟩:=P2.row F0.o;go_wp2;go_region_held3 (fun w'=>w'.cell? ⟨wo,1,none⟩=some (.int .i64 a)/\w'.cell? ⟨wo,2,none⟩=some (.int .i64 x)/\w'.cell? ⟨wo,3,none⟩=some (.int .i64 y))
  (first|(exact (P2.row F0.o).2)|(exact (P2.row F0.o.drew).2)|(exact (P2.aPL f2).2)|(exact (P2.aPL f3).2))
  (first
   | (go_at_call 91;refine (h0.o _ _ _ F0.o.drew).mono ?_;rintro e w2 ⟨z,d,rfl,f2⟩)
   | (go_at_call 45;refine (HP.o _ _ _ f2).mono ?_;rintro e w3 ⟨rfl,f3⟩))
 have F3:Hid (Fam w0 w3 (P2 b g r3 c (tl ++ [DA wo 0 a x y]))):=P2.pop f3;clear f2 f3 HP F0 o0 o1 o2 o3;obtain ⟨o0,o1,o2,o3⟩:=P2.row F3.o;go_wp2;go_region_held3 (fun w'=>w'.cell? ⟨wo,1,none⟩=some (.int .i64 a)/\w'.cell? ⟨wo,2,none⟩=some (.int .i64 x)/\w'.cell? ⟨wo,3,none⟩=some (.int .i64 y))
  (first|(exact (P2.row F3.o).2)|(exact (P2.row F3.o.drew).2)|(exact (P2.aPL f4).2)|(exact (P2.aPL f5).2))
  (first
   | (go_at_call 91;refine (h0.o _ _ _ F3.o.drew).mono ?_;rintro e w4 ⟨ua,uc,rfl,f4⟩)
   | (go_at_call 92;refine (HQ.o _ _ _ f4).mono ?_;rintro e w5 ⟨rfl,f5⟩))
 have HE:=aA (P2.pop (P2.pop f5));clear f4 f5 HQ h0 F3 o0 o1 o2 o3;go_wp2;exact hR.o _ _ ⟨rfl,HE.o⟩
theorem aPn (w:World) (hf:Fam w0 w (P2 b g c c tl)) (h:c.Ok) (d a x y:Int) (wa:wfI a) (z:wfI x) (wy:wfI y):Calls prog 37 #[.pointer (some ⟨b,0,none⟩),.pointer (some ⟨g,0,none⟩),.agg #[.int .i64 d,.int .i64 a,.int .i64 x,.int .i64 y]] w (CDo w0 b g tl (c.deed d a x y)):=by
 by_cases h0:0<=d/\d<=9
 ·have hc:d=0\/d=1\/d=2\/d=3\/d=4\/d=5\/d=6\/d=7\/d=8\/d=9:=by omega
  rcases hc with rfl|rfl|rfl|rfl|rfl|rfl|rfl|rfl|rfl|rfl
  ·exact aSR w hf h a x y wa z wy
  ·exact aSQ w hf h a x y wa z wy
  ·exact aSP w hf h a x y wa z wy
  ·exact aSO w hf h a x y wa z wy
  ·exact aSN w hf h a x y wa z wy
  ·exact aSM w hf h a x y wa z wy
  ·exact aSL w hf h a x y wa z wy
  ·exact aSK w hf h a x y wa z wy
  ·exact aSJ w hf h a x y wa z wy
  exact aSI w hf h a x y wa z wy
 exact aQS w hf h d (fun k h1 h2 e=>h0 (by omega)) a x y wa z wy
theorem Co.Ok.deed (h:c.Ok) (d a x y:Int):(c.deed d a x y).Ok:=by
 unfold Co.deed;split;exact h.aH _ _;split;exact h.aG _ _ _;split;exact h.store _ _ _;split;exact h.step;split;exact h.fZ _;split;exact h.finish.1;split;exact h.begin _;split;exact h;split;exact h.refer _ _ _;split;exact h.target _;exact h.take
end
theorem aPt {y z:Int}:¬ (y<1\/24<y\/z<0\/100<z)↔(1<=y/\y<=24)/\0<=z/\z<=100:=by omega
theorem aPs {a b c:World} (y:Only [] a b) (z:Only [] b c):Below a.heap.size a c:=(y.trans z (by simp)).bel
end Go.Proofs.YthflghdaejbdkaaGreat
namespace Go.Proofs.YthflghdaejbdkaaGreat
open _root_.Go.Proofs.Tryz (prog)
set_option linter.unusedVariables false
set_option maxRecDepth 100000
theorem rV (P:Pl) (a n:Int):(P.setCell a n).2.n=P.n:=by unfold Pl.setCell;split<;>rfl
theorem aQl (P:Pl) (a:Int):(P.free a).2.n=P.n:=by
 unfold Pl.free;split
 ·split<;>rfl
 rfl
theorem aOO (P:Pl) (c:Int):(P.alloc c).2.2.n=P.n:=by
 unfold Pl.alloc;split
 ·rfl
 simp only;split
 ·rfl
 split<;>rfl
theorem aFR (P:Pl) (l:List Int):∀ k bs Q,dH P l k=some (bs,Q)->Q.n=P.n
 | 0,bs,Q,h=>by unfold dH at h;cases h;rfl
 | k+1,bs,Q,h=>by
  unfold dH at h
  cases e:dH P l k with
  | none=>rw [e] at h;cases h
  | some r=>
   obtain ⟨z,y⟩:=r;rw [e] at h;simp only at h;split at h
   ·cases h;exact (aOO _ _).trans (aFR P l k z y e)
   cases h
theorem aNS (P:Pl) (a:Int) (l:List Int):∀ k,(vX P a l k).n=P.n
 | 0=>rfl
 | k+1=>(rV _ _ _).trans (aNS P a l k)
theorem aQm (M:Hp) (o:Th):(M.add o).2.2.P.n=M.P.n:=by
 unfold Hp.add;split
 ·cases e:dH M.P (aT o.slots.length) (aT o.slots.length).length with
  | none=>rfl
  | some r=>
   obtain ⟨bs,Q⟩:=r;show (fK Q _ bs).n=_;unfold fK;rw [aNS,rV];exact aFR _ _ _ _ _ e
 rfl
theorem yQ (M:Hp) (c:Int) (l:List Bool):(M.aH c l).2.2.P.n=M.P.n:=by
 unfold Hp.aH;split
 ·rfl
 exact aQm M _
theorem aAR (M:Hp) (k c n:Int):(M.aG k c n).2.2.P.n=M.P.n:=by
 unfold Hp.aG;split
 ·rfl
 split
 ·exact aQm M _
 rfl
theorem aON (M:Hp) (h s v:Int):(M.set h s v).2.P.n=M.P.n:=by
 unfold Hp.set;split
 ·rfl
 split
 ·rfl
 split
 ·exact rV _ _ _
 rfl
theorem aJJ (P:Pl) (l:List Int):∀ k,(iL P l k).n=P.n
 | 0=>rfl
 | k+1=>(aQl _ _).trans (aJJ P l k)
theorem aJI (M:Hp) (h:Int):(M.release h).2.P.n=M.P.n:=by
 unfold Hp.release;split
 ·rfl
 split
 ·rfl
 exact aJJ _ _ _
theorem aEO (P:Pl):P.move.2.2.2.n=P.n:=by
 cases y:P.pair with
 | none=>rw [Pl.dF y]
 | some x=>obtain ⟨i,j⟩:=x;rw [Pl.dK y];rfl
theorem aNT (M:Hp):M.move.2.2.P.n=M.P.n:=by
 unfold Hp.move;split
 ·split
  ·unfold Hp.eX;show (if _ then _ else _:Pl).n=_;split
   ·exact aEO _
   exact (rV _ _ _).trans (aEO _)
  exact aEO _
 rfl
theorem aBR (M:Hp) (h:Int):∀ k,(M.bI h k).P.n=M.P.n
 | 0=>rfl
 | k+1=>by
  unfold Hp.bI;split
  ·exact (aON _ _ _ _).trans (aBR M h k)
  exact aBR M h k
theorem aFQ (M:Hp) (l:List Int):∀ k,(M.bK l k).P.n=M.P.n
 | 0=>rfl
 | k+1=>(aBR _ _ _).trans (aFQ M l k)
def Co.Pn (c:Co):Prop:=c.m.M.P.n=c.pages
section
variable {c:Co}
theorem Co.Pn.of (h:c.Pn) {d:Co} (z:d.pages=c.pages) (y:d.m.M.P.n=c.m.M.P.n):d.Pn:=by unfold Co.Pn;rw [z,y];exact h
theorem Co.Pn.mark (h:c.Pn):c.mark.2.Pn:=h.of rfl (by show c.m.step.2.2.M.P.n=_;rw [Mk.nM])
theorem Co.Pn.fC (h:c.Pn) (s:List Int):(c.fC s).2.Pn:=h.of rfl (aFQ _ _ _)
theorem Co.Pn.tail (h:c.Pn):c.tail.2.Pn:=by
 unfold Co.tail;split
 ·exact h.fC _
 exact h.mark
theorem Co.Okc.aOq (h:c.Okc) (y:c.ph=2):c.stepT.m.M=c.m.M:=(h.tg.step (h.mo (.inr y))).2.2.1
theorem Co.Pn.step (h:c.Pn) (z:c.Okc):c.step.2.2.Pn:=by
 unfold Co.step;split
 ·exact h
 split
 ·split
  ·exact h.of rfl rfl
  exact h.mark
 split
 ·rename_i d;show c.refs.2.Pn;rw [Co.fV];have y:c.stepT.Pn:=h.of rfl (by rw [z.aOq d]);split
  ·exact y
  exact y.tail
 split
 ·show c.free.2.Pn;unfold Co.free;split
  ·exact h.of rfl rfl
  exact h.of rfl (aJI _ _)
 show c.move.2.Pn;unfold Co.move;split
 ·exact h.of rfl rfl
 exact h.of rfl (aNT _)
theorem Co.Pn.steps (h:c.Pn) (y:c.Okc):∀ k,(Co.steps k c).Pn
 | 0=>h
 | k+1=>(Co.Pn.steps h y k).step (y.steps k)
theorem Co.Pn.aAf (h:c.Pn) (n:Int):({ c with cr:=n }:Co).Pn:=h
theorem Co.Pn.pays (h:c.Pn) (d:c.Okc):∀ k,(∀ j,j<k->¬ (Co.pays j c).stops)->(Co.pays k c).Pn
 | 0,_=>h
 | k+1,hs=>by
  have y:=Co.Pn.pays h d k (fun j hj=>hs j (by omega));have z:=(Co.uD d k (fun j hj=>hs j (by omega))).1;have hn:=hs k (by omega);have hp:(Co.pays k c).ph≠0:=fun e=>hn (.inl e);have hc:=z.cost hp;have h0:(Co.pays k c).step.1<=(Co.pays k c).cr:=by
   rcases Int.lt_or_le (Co.pays k c).cr (Co.pays k c).step.1 with y|y
   ·exact absurd (.inr y) hn
   exact y
  exact (y.aAf _).step (z.aAf hp (n:=(Co.pays k c).cr - (Co.pays k c).step.1) (by omega))
theorem Co.Pn.give (h:c.Pn) (z:c.Okc) {n:Int} (d:0<=n):(c.give n).2.Pn:=by
 unfold Co.give;split
 ·exact h
 rename_i e;have y:=z.more e d;exact Co.Pn.pays (c:=c.more n) h y _ (Co.fO y).2.1
theorem Co.Pn.fZ (h:c.Pn) (y:c.Okc) (n:Int):(c.fZ n).2.2.Pn:=by
 unfold Co.fZ;split
 ·exact h
 exact h.give y (by omega)
theorem Co.Pn.newObj (h:c.Pn) (k:Int) (l:List Bool):(c.newObj k l).2.2.Pn:=by
 unfold Co.newObj;split
 ·exact h.of rfl (by show (c.m.made (c.m.M.aH k l)).2.2.M.P.n=_;rw [aFU];exact yQ _ _ _)
 exact h.of rfl (yQ _ _ _)
theorem Co.Pn.dW (h:c.Pn) (k a n:Int):(c.dW k a n).2.2.Pn:=by
 unfold Co.dW;split
 ·exact h.of rfl (by show (c.m.made (c.m.M.aG k a n)).2.2.M.P.n=_;rw [aFU];exact aAR _ _ _ _)
 exact h.of rfl (aAR _ _ _ _)
theorem Co.Pn.aH (h:c.Pn) (y:c.Okc) (k:Int) (l:List Bool):(c.aH k l).2.2.Pn:=by
 unfold Co.aH;split
 ·exact h
 exact (h.give y y.rt.1).newObj k l
theorem Co.Pn.aG (h:c.Pn) (y:c.Okc) (k a n:Int):(c.aG k a n).2.2.Pn:=by
 unfold Co.aG;split
 ·exact h
 rename_i d;have z:=vJ (n:=n) (by omega) (by omega);exact (h.give y (Int.mul_nonneg y.rt.1 (by omega))).dW k a n
theorem Co.Pn.store (h:c.Pn) (a s v:Int):(c.store a s v).2.Pn:=by
 unfold Co.store;split
 ·exact h
 split
 ·exact h.of rfl (by show (c.m.store a s v).2.M.P.n=_;rw [aIS];exact aON _ _ _ _)
 exact h.of rfl (aON _ _ _ _)
theorem Co.Pn.refer (h:c.Pn) (k x g:Int):(c.refer k x g).2.2.Pn:=by
 unfold Co.refer;split
 ·exact h
 exact h.of rfl rfl
theorem Co.Pn.target (h:c.Pn) (i:Int):(c.target i).2.2.Pn:=by
 unfold Co.target;split
 ·exact h
 split
 ·exact h
 show (if c.ph=1 then _ else _:Co).Pn;split
 ·exact h.of rfl (by show (c.m.bG _).M.P.n=_;rw [Mk.lZ])
 exact h
theorem Co.Pn.begin (h:c.Pn) (l:List Int):(c.begin l).2.Pn:=by
 unfold Co.begin;split
 ·exact h
 split
 ·exact h
 split
 ·exact h
 exact h.of rfl (by show ((Mk.start c.m.M).aY l).M.P.n=_;rw [Mk.jP];rfl)
theorem Co.Pn.new (n:Nat) (r:Int):(Co.new n r).Pn:=rfl
theorem Co.Pn.take (h:c.Pn):c.take.2.2.Pn:=h
theorem Co.Pn.finish (h:c.Pn) (y:c.Okc):c.finish.2.2.2.Pn:=by
 unfold Co.finish;split
 ·exact h
 exact h.steps y _
end
theorem aNp (t:Tb) (m:Mk) (i:Nat):(t.clear m i).1.ents.length=t.ents.length:=by
 unfold Tb.clear;simp only;split
 ·split
  ·show (t.ents.set _ _).length=_;rw [List.length_set]
  rfl
 split
 ·show (t.ents.set _ _).length=_;rw [List.length_set]
 rfl
theorem aOm (t:Tb) (m:Mk):(t.step m).2.2.2.1.ents.length=t.ents.length:=by
 unfold Tb.step;split
 ·rfl
 simp only;split
 ·show ((t.settle m).settle _).ents.length=_;rw [Tb.gV.1,Tb.gV.1]
 split
 ·show (t.settle m).ents.length=_;rw [Tb.gV.1]
 show ((((t.settle m).clear m (t.settle m).nx).1.at _ _).settle _).ents.length=_;rw [Tb.gV.1];show ((t.settle m).clear m (t.settle m).nx).1.ents.length=_;rw [aNp,Tb.gV.1]
structure Kp (c d:Co):Prop where
 pg:d.pages=c.pages
 rt:d.rate=c.rate
 el:d.t.ents.length=c.t.ents.length
variable {c d e:Co}
theorem Kp.refl (c:Co):Kp c c:=⟨rfl,rfl,rfl⟩
theorem Kp.trans (h:Kp c d) (y:Kp d e):Kp c e:=⟨y.pg.trans h.pg,y.rt.trans h.rt,y.el.trans h.el⟩
theorem Kp.tail (c:Co):Kp c c.tail.2:=by
 unfold Co.tail;split
 ·unfold Co.jG;generalize c.m.white=s;exact ⟨rfl,rfl,rfl⟩
 exact ⟨rfl,rfl,rfl⟩
theorem Kp.stepT (c:Co):Kp c c.stepT:=⟨rfl,rfl,aOm c.t c.m⟩
theorem Kp.step (c:Co):Kp c c.step.2.2:=by
 unfold Co.step;split
 ·exact Kp.refl c
 split
 ·split
  ·refine ⟨rfl,rfl,?_⟩;show (c.t.begin c.m).2.ents.length=_;unfold Tb.begin;split
   ·rfl
   show ((c.t.at 1 0).settle c.m).ents.length=_;rw [Tb.gV.1];rfl
  exact ⟨rfl,rfl,rfl⟩
 split
 ·show Kp c c.refs.2;rw [Co.fV];split
  ·exact Kp.stepT c
  exact (Kp.stepT c).trans (Kp.tail _)
 split
 ·show Kp c c.free.2;unfold Co.free;split<;>exact ⟨rfl,rfl,rfl⟩
 show Kp c c.move.2;unfold Co.move;split<;>exact ⟨rfl,rfl,rfl⟩
theorem Kp.steps (c:Co):∀ k,Kp c (Co.steps k c)
 | 0=>Kp.refl c
 | k+1=>(Kp.steps c k).trans (Kp.step _)
theorem Kp.pay (c:Co):Kp c c.pay:=(show Kp c { c with cr:=c.cr - c.step.1 } from ⟨rfl,rfl,rfl⟩).trans (Kp.step _)
theorem Kp.pays (c:Co):∀ k,Kp c (Co.pays k c)
 | 0=>Kp.refl c
 | k+1=>(Kp.pays c k).trans (Kp.pay _)
theorem Kp.give (c:Co) (n:Int):Kp c (c.give n).2:=by
 unfold Co.give;split
 ·exact Kp.refl c
 exact (show Kp c (c.more n) from ⟨rfl,rfl,rfl⟩).trans (Kp.pays _ _)
theorem Kp.fZ (c:Co) (n:Int):Kp c (c.fZ n).2.2:=by
 unfold Co.fZ;split
 ·exact Kp.refl c
 exact Kp.give c n
theorem Kp.finish (c:Co):Kp c c.finish.2.2.2:=by
 unfold Co.finish;split
 ·exact Kp.refl c
 exact Kp.steps c _
theorem Kp.newObj (c:Co) (k:Int) (l:List Bool):Kp c (c.newObj k l).2.2:=by
 unfold Co.newObj;split<;>exact ⟨rfl,rfl,rfl⟩
theorem Kp.dW (c:Co) (k a n:Int):Kp c (c.dW k a n).2.2:=by
 unfold Co.dW;split<;>exact ⟨rfl,rfl,rfl⟩
theorem Kp.aH (c:Co) (k:Int) (l:List Bool):Kp c (c.aH k l).2.2:=by
 unfold Co.aH;split
 ·exact Kp.refl c
 exact (Kp.give c _).trans (Kp.newObj _ k l)
theorem Kp.aG (c:Co) (k a n:Int):Kp c (c.aG k a n).2.2:=by
 unfold Co.aG;split
 ·exact Kp.refl c
 exact (Kp.give c _).trans (Kp.dW _ k a n)
theorem Kp.store (c:Co) (a s v:Int):Kp c (c.store a s v).2:=by
 unfold Co.store;split
 ·exact Kp.refl c
 split<;>exact ⟨rfl,rfl,rfl⟩
theorem Kp.target (c:Co) (i:Int):Kp c (c.target i).2.2:=by
 unfold Co.target;split
 ·exact Kp.refl c
 split
 ·exact Kp.refl c
 show Kp c (if c.ph=1 then _ else c);split<;>exact ⟨rfl,rfl,rfl⟩
theorem Kp.take (c:Co):Kp c c.take.2.2:=⟨rfl,rfl,congrArg List.length (xK c.t).1⟩
theorem Kp.begin (c:Co) (l:List Int):Kp c (c.begin l).2:=by
 unfold Co.begin;split
 ·exact Kp.refl c
 split
 ·exact Kp.refl c
 split<;>exact ⟨rfl,rfl,rfl⟩
theorem aMk (c:Co) (k x g:Int):(c.refer k x g).2.2.pages=c.pages/\(c.refer k x g).2.2.rate=c.rate/\(c.refer k x g).2.2.t.ents.length<=c.t.ents.length+1:=by
 unfold Co.refer;split
 ·exact ⟨rfl,rfl,Nat.le_succ _⟩
 refine ⟨rfl,rfl,?_⟩;show (c.t.add c.m k _ g).2.2.ents.length<=_;generalize (if c.hid x then 0 else x:Int)=y;unfold Tb.add;split
 ·exact Nat.le_succ _
 split
 ·exact Nat.le_succ _
 split
 ·exact Nat.le_succ _
 split
 ·exact Nat.le_succ _
 show (c.t.ents ++ [_]).length<=_;rw [List.length_append];exact Nat.le_refl _
theorem aKO (c:Co) (d a x y:Int):(c.deed d a x y).pages=c.pages/\(c.deed d a x y).rate=c.rate/\(c.deed d a x y).t.ents.length<=c.t.ents.length+if d=8 then 1 else 0:=by
 have z:∀ e:Co,Kp c e->e.pages=c.pages/\e.rate=c.rate/\e.t.ents.length<=c.t.ents.length+if d=8 then 1 else 0:=fun e h=>⟨h.pg,h.rt,by have:=h.el;omega⟩;unfold Co.deed;split;exact z _ (Kp.aH _ _ _);split;exact z _ (Kp.aG _ _ _ _);split;exact z _ (Kp.store _ _ _ _);split;exact z _ (Kp.step _);split;exact z _ (Kp.fZ _ _);split;exact z _ (Kp.finish _);split;exact z _ (Kp.begin _ _);split;exact z _ (Kp.refl _);split
 ·exact aMk _ _ _ _
 have h0:∀ e:Co,Kp c e->e.pages=c.pages/\e.rate=c.rate/\e.t.ents.length<=c.t.ents.length+0:=fun e h=>⟨h.pg,h.rt,by have:=h.el;omega⟩;split;exact h0 _ (Kp.target _ _);exact h0 _ (Kp.take _)
theorem Co.Pn.deed (h:c.Pn) (z:c.Okc) (d a x y:Int):(c.deed d a x y).Pn:=by
 unfold Co.deed;split;exact h.aH z _ _;split;exact h.aG z _ _ _;split;exact h.store _ _ _;split;exact h.step z;split;exact h.fZ z _;split;exact h.finish z;split;exact h.begin _;split;exact h;split;exact h.refer _ _ _;split;exact h.target _;exact h.take
def aIf (f:Nat->Nat->Int):Nat->Nat
 | 0=>0
 | k+1=>aIf f k+if f k 0=8 then 1 else 0
structure Std (n:Nat) (rate:Int) (k:Nat) (c:Co):Prop where
 ok:c.Ok
 pn:c.Pn
 pg:c.pages=n
 rt:c.rate=rate
 el:c.t.ents.length<=k
theorem Std.new (n:Nat) (r:Int) (z:1<=n) (y:n<=24) (d:0<=r/\r<=100):Std n r 0 (Co.new n r):=⟨Co.Ok.new z y d,Co.Pn.new n r,rfl,rfl,Nat.le_refl _⟩
variable {n:Nat} {rate:Int} {f:Nat->Nat->Int} {k:Nat}
theorem Std.deed (h:Std n rate (aIf f k) c) (a x y:Int):Std n rate (aIf f (k+1)) (c.deed (f k 0) a x y):=by
 obtain ⟨z,d,e⟩:=aKO c (f k 0) a x y;refine ⟨h.ok.deed _ _ _ _,h.pn.deed h.ok.k _ _ _ _,z.trans h.pg,d.trans h.rt,?_⟩;have:=h.el;show _<=aIf f k+_;omega
theorem Std.finish (h:Std n rate k c):Std n rate k c.finish.2.2.2/\c.finish.2.2.2.ph=0:=by
 have y:=Kp.finish c;exact ⟨⟨h.ok.finish.1,h.pn.finish h.ok.k,y.pg.trans h.pg,y.rt.trans h.rt,by rw [y.el];exact h.el⟩,h.ok.finish.2⟩
end Go.Proofs.YthflghdaejbdkaaGreat
namespace Go.Proofs.YthflghdaejbdkaaGreat
open _root_.Go.Proofs.Tryz (prog)
open Go.RowKit Go.Maps
set_option maxHeartbeats 12800000
set_option maxRecDepth 100000
set_option linter.unusedVariables false
section
variable {w0 w:World} {l:List Asn} {b:Nat} {c:Co} {i:Nat}
theorem GoA.stage (z:Fam w0 w l) (d:l[i]?=some (GoA b c)):w.cell? ⟨b,3,none⟩=some (.int .i64 (c.ph:Int)):=by
 obtain ⟨x,hx,y⟩:=GoA.open z d;exact (bC.cells y).2.2.2.1
theorem GoA.lives (d:Fam w0 w l) (hi:l[i]?=some (GoA b c)):∃ q,w.cell? ⟨b,0,none⟩=some (.pointer (some ⟨q,0,none⟩))/\∀ y:Int,Calls prog 58 #[.pointer (some ⟨q,0,none⟩),.int .i64 y] w (fun e w'=>e=.returned (.bool (c.m.M.ob y).isSome)/\Only [] w w'):=by
 obtain ⟨x,hx,z⟩:=GoA.open d hi;obtain ⟨hk,L,X,hg⟩:=G5.gh z;exact ⟨x.q,(bC.cells z).1,fun y=>jT w hg hk y⟩
theorem aKT (y:Fam w0 w l) (z:l[i]?=some (CoA b c)) (d:c.ph=0):Calls prog 53 #[.pointer (some ⟨b,0,none⟩)] w (aO w (.int .i64 0)):=by
 have:=qK w y z;rw [d] at this;exact this
end
theorem aDU (y z:Int) (la:Option Addr) (ln lc:Nat) (w:World) (d:y<1\/24<y\/z<0\/100<z) :
  Calls prog 56 #[.int .i64 y,.int .i64 z,.slice la ln lc] w fun e w'=>e=.returned (.tuple #[.pointer none,.pointer none])/\Only [] w w':=by
 refine aF fun R hR=>?_;have c1:=aNo w y z d;have h3:=aA d;clear d;go_in;go_wp2_with fail;go_fit c1;rintro e w1 ⟨rfl,h1⟩;have c2:=aKr w1 y z h3.o;have h0:=aA h1;clear c1 h1;go_wp2_with fail;go_fit c2;rintro e w2 ⟨rfl,h2⟩;have h4:Hid (Only [] w w2):=h0.o.trans h2 (by simp);clear c2 h2 h0;go_wp2;exact hR.o _ _ ⟨rfl,h4.o⟩
theorem aCg (n:Nat) (y:Int) (la:Option Addr) (d lc:Nat) (f:Nat->Nat->Int) (w:World) (h1:1<=n) (h3:n<=24) (hr:0<=y/\y<=100) (hd:Recs 4 w la d f) :
  Calls prog 56 #[.int .i64 (n:Int),.int .i64 y,.slice la d lc] w fun e w'=>∃ b g c,e=.returned (.tuple #[.pointer (some ⟨b,0,none⟩),.pointer (some ⟨g,0,none⟩)])/\Fam w w' (P2 b g c c [])/\Std n y (aIf f (min d 60)) c/\c.ph=0:=by
 refine aF fun R hR=>?_;have c1:=aDW w (Fam.nil w) n y h1 h3 hr;have c2:Hid (∀ wx b,Fam w wx [CoA b (Co.new n y)]->Calls prog 36 #[.int .i64 (n:Int),.int .i64 y] wx (fun e w'=>∃ g,e=.returned (.tuple #[.pointer (some ⟨g,0,none⟩),.int .i64 0])/\Fam w w' (P2 b g (Co.new n y) (Co.new n y) []))):=fun wx b hx=>aHK wx hx n y h1 h3 hr;have h8:=aA (Std.new n y h1 h3 hr);have HD:=aA hd;clear hd h1 h3 hr;generalize Co.new n y=c0 at*;go_in;go_wp2_with fail;go_fit c1;rintro e w1 ⟨b,rfl,x1⟩;have h9:=c2.o w1 b x1;clear c1 c2 x1;go_wp2_with fail;go_fit h9;rintro e w2 ⟨g,rfl,x2⟩;have h7:=aA x2;clear h9 x2;go_wp2;go_loopw [12] (fun iv wr=>∃ (x:Nat) (c:Co),x<=d/\x<=60/\iv=.int .i64 x/\Fam w wr (P2 b g c c [])/\Hid (Std n y (aIf f x) c)) (fun iv _=>d - (intOf iv).toNat)
 case atStart=>exact ⟨0,c0,by omega,by omega,rfl,h7.o,h8⟩
 case round=>as_aux_lemma=>
  clear h7 h8;obtain ⟨x,c,hx,x9,rfl,hF,HC⟩:=hrel;have z:=aA hF;clear hF
  by_cases h6:x<d/\x<60
  ·obtain ⟨h6,y0⟩:=h6;have x7:(x:Int)<d:=by omega
   have y2:(0:Int)<=x:=by omega
   have x8:(x:Int)<60:=by omega
   rcases HD.o.2 with h0|⟨bb,oo,rfl,hc⟩
   ·omega
   have c0:=z.o.cell (hc x (by omega) 0 (by omega)).1;have c1:=z.o.cell (hc x (by omega) 1 (by omega)).1;have c2:=z.o.cell (hc x (by omega) 2 (by omega)).1;have c3:=z.o.cell (hc x (by omega) 3 (by omega)).1;rw [Nat.add_zero] at c0;rw [<-Nat.add_assoc] at c1 c2 c3;have wa:=(hc x (by omega) 1 (by omega)).2;have wb:=(hc x (by omega) 2 (by omega)).2;have wc:=(hc x (by omega) 3 (by omega)).2;have cd:=aPn _ z.o HC.o.ok (f x 0) (f x 1) (f x 2) (f x 3) wa wb wc;have x4:Hid (Std n y (aIf f (x+1)) (c.deed (f x 0) (f x 1) (f x 2) (f x 3))):=HC.o.deed _ _ _;generalize c.deed (f x 0) (f x 1) (f x 2) (f x 3)=c' at*;generalize f x 0=d0 at*;generalize f x 1=d1 at*;generalize f x 2=d2 at*;generalize f x 3=d3 at*;clear hc wa wb wc;go_wp2_with fail;go_fit cd;rintro e w3 ⟨rfl,h2⟩;have x5:=aA h2;clear cd h2 c0 c1 c2 c3 z;go_wp2;exact ⟨⟨x+1,c',by omega,by omega,by go_num,x5.o,x4⟩,by simp [intOf];omega⟩
  have HX:Hid (Std n y (aIf f (min d 60)) c):=by
   have e:min d 60=x:=by omega
   rw [e];exact HC.o
  have hl:((x:Int)<d/\¬ (x:Int)<60)\/(¬ (x:Int)<d/\True):=by
   by_cases e:x<d
   ·exact .inl ⟨by omega,by omega⟩
   exact .inr ⟨by omega,trivial⟩
  clear HD HC h6
  by_cases hp:c.ph=0
  ·have cp:=aKT (i:=0) z.o rfl hp;have gs:wr.cell? ⟨g,3,none⟩=some (.int .i64 0):=by rw [GoA.stage (i:=1) z.o rfl,hp];rfl
   have HE:=aA (show _/\_/\_ from ⟨z.o,HX.o,hp⟩);clear hp z HX;rcases hl with ⟨h4,h5⟩|⟨h4,h5⟩
   all_goals
    go_wp2_with fail;go_fit cp;rintro e _ ⟨rfl,rfl⟩;clear cp;go_wp2;exact hR.o _ _ ⟨b,g,c,rfl,HE.o⟩
  have cp:=qK (i:=0) wr z.o rfl;have cf:=mP (i:=0) wr z.o rfl HX.o.ok.k;have y1:¬ (c.ph:Int)=0:=by omega
  have HQ:Hid (∀ wx,Fam w wx (P2 b g c.finish.2.2.2 c [])->wx.cell? ⟨g,3,none⟩=some (.int .i64 (c.ph:Int))/\Calls prog 97 #[.pointer (some ⟨g,0,none⟩)] wx (fun e w'=>e=.returned (.tuple #[.int .i64 c.finish.1,.int .i64 c.finish.2.1,.int .i64 c.finish.2.2.1])/\Fam w w' (P2 b g c.finish.2.2.2 c.finish.2.2.2 []))):=fun wx hx=>⟨GoA.stage (i:=1) hx rfl,yI (i:=1) wx hx rfl HX.o.ok.k⟩;have HE:=aA HX.o.finish;have cf:Calls prog 44 #[.pointer (some ⟨b,0,none⟩)] wr (fun e w'=>e=.returned (.tuple #[.int .i64 c.finish.1,.int .i64 c.finish.2.1,.int .i64 c.finish.2.2.1])/\Fam w w' (P2 b g c.finish.2.2.2 c [])):=cf;clear hp z HX;generalize c.finish=ff at*;obtain ⟨f1,f2,f3,f4⟩:=ff;generalize (c.ph:Int)=ph at*;rcases hl with ⟨h4,h5⟩|⟨h4,h5⟩
  all_goals
   go_wp2_with fail;go_fit cp;rintro e _ ⟨rfl,rfl⟩;clear cp;go_wp2_with fail;go_fit cf;rintro e w3 ⟨rfl,h2⟩;obtain ⟨gs,cq⟩:=HQ.o _ h2;clear cf HQ h2;go_wp2_with fail;go_fit cq;rintro e w4 ⟨rfl,x3⟩;have x6:=aA x3;clear cq x3 gs;go_wp2;exact hR.o _ _ ⟨b,g,f4,rfl,x6.o,HE.o⟩
def mM (M:Hp) (L:List Int):Nat->List Int
 | 0=>[]
 | k+1=>mM M L k ++ if (M.ob (gI L k)).isSome=true then [gI L k] else []
def wH (M:Hp) (L:List Int):List Int:=mM M L L.length
theorem zV (M:Hp) (L:List Int):∀ k,(mM M L k).length<=k
 | 0=>Nat.le_refl _
 | k+1=>by
  unfold mM;rw [List.length_append];have:=zV M L k;split<;>simp<;>omega
theorem zU {M:Hp} {L:List Int} {x:Int}:∀ {k:Nat},x∈mM M L k->(M.ob x).isSome=true
 | 0,h=>by cases h
 | k+1,h=>by
  unfold mM at h;rcases List.mem_append.1 h with h|h
  ·exact zU h
  split at h
  ·next e=>rw [List.mem_singleton] at h;rw [h];exact e
  cases h
theorem aBi (M:Hp) (L:List Int):¬ M.bZ (wH M L):=fun ⟨x,hx,_,h⟩=>by
 have:=zU hx;rw [h] at this
 cases this
theorem aKI {M:Hp} {c:Int}:(wH M (dJ c)).length<=40:=Nat.le_trans (zV _ _ _) (nT c 40)
section
variable {w0 w:World} {l:List Asn} {b q:Nat} {c:Co} {i:Nat}
theorem GoA.aQp (hf:Fam w0 w l) (hi:l[i]?=some (GoA b c)) (hq:w.cell? ⟨b,0,none⟩=some (.pointer (some ⟨q,0,none⟩))) (y:Int):Calls prog 58 #[.pointer (some ⟨q,0,none⟩),.int .i64 y] w (fun e w'=>e=.returned (.bool (c.m.M.ob y).isSome)/\Only [] w w'):=by
 obtain ⟨q2,z,d⟩:=GoA.lives hf hi;rw [hq] at z;have e:q=q2:=by injection z with z;injection z with z;injection z with z;injection z
 rw [e];exact d y
end
end Go.Proofs.YthflghdaejbdkaaGreat
namespace Go.Proofs.YthflghdaejbdkaaGreat
open _root_.Go.Proofs.Tryz (prog)
set_option linter.unusedVariables false
set_option maxRecDepth 100000
def Th.bare (o:Th):Prop:=∀ s,gI o.slots s=0
section
variable {M N:Hp} {live done:Int->Prop}
theorem Hp.aMb (h:N.Ok) {x:Int} {o:Th} (y:N.ob x=some o) {s:Nat} (hs:s<o.slots.length):N.set x s 0=(0,⟨(N.P.setCell (o.addr s) 0).2,eU N.ob x (some (o.put s 0))⟩):=by
 unfold Hp.set;rw [y];simp only;rw [if_neg (by omega),Int.toNat_natCast,if_pos (Hp.Ok.aDR _)]
theorem Th.aLf {o:Th} (h:o.bare):o.fJ=[]:=by
 cases e:o.fJ with
 | nil=>rfl
 | cons y l=>
  obtain ⟨s,_,_,z,d⟩:=Th.nU (o:=o) (k:=o.slots.length) (x:=y) (by show y∈o.fJ;rw [e];simp);exact absurd ((h s).symm.trans z).symm d
structure Gone (N0 N:Hp) (live gone:Int->Prop):Prop where
 ok:N.OkF
 lv:∀ k,live k->N.ob k=N0.ob k
 no:∀ k,gone k->¬ live k->N.ob k=none
 sm:∀ k o,N.ob k=some o->N0.ob k=some o
 st:∀ k,¬ gone k->N.ob k=N0.ob k
theorem Gone.held {N0 N:Hp} {d:Int->Prop} (h:Gone N0 N live d) (hb:∀ k o,¬ live k->N0.ob k=some o->o.bare) (hc:∀ k o,live k->N0.ob k=some o->∀ y,y∈o.fJ->live y) {x:Int} (hx:¬ live x):N.held x=false:=by
 cases e:N.held x with
 | false=>rfl
 | true=>
  obtain ⟨k,_,z⟩:=Hp.mJ.1 e;unfold Hp.refers at z
  cases ho:N.ob ((k:Int)+1) with
  | none=>rw [ho] at z;simp at z
  | some o=>
   rw [ho] at z;simp at z;have h0:=h.sm _ o ho
   by_cases hl:live ((k:Int)+1)
   ·exact absurd (hc _ o hl h0 x z.2) hx
   have:=Th.aLf (hb _ o hl h0);rw [this] at z;simp at z
theorem aAA {N M:Hp} {y:List Int} (h:∀ k,(N.ob k).isSome=true↔M.Rch y k) (j:Nat):N.aX j=M.mW y j:=by
 induction j with
 | zero=>rfl
 | succ j z=>
  unfold Hp.aX Hp.mW;rw [z]
  by_cases e:M.Rch y ((j:Int)+1)
  ·rw [if_pos e,if_pos ((h _).2 e)]
  rw [if_neg e,if_neg (fun x=>e ((h _).1 x))]
theorem aBW {N M:Hp} {y:List Int} (h:∀ k,(N.ob k).isSome=true↔M.Rch y k):N.handles=M.jZ y:=by
 unfold Hp.handles Hp.jZ;exact aAA h 192
end
section
variable {M:Hp} {h:Int} {o:Th}
theorem aHv (y:M.ob h=some o) {k:Nat} (z:k<o.slots.length):(M.isRef h (k:Int)).1=gB o.refs k:=by
 unfold Hp.isRef;rw [y];show (if _ then _ else _:Bool×Int).1=_;rw [if_neg (by omega),Int.toNat_natCast]
structure aBs (o o':Th) (k:Nat):Prop where
 rf:o'.refs=o.refs
 ln:o'.slots.length=o.slots.length
 z:∀ j,j<k->gB o.refs j=true->gI o'.slots j=0
 w:∀ j,gB o.refs j=false->gI o'.slots j=gI o.slots j
 r:∀ j,k<=j->gI o'.slots j=gI o.slots j
theorem aDZ (hk:M.OkF) (ho:M.ob h=some o):∀ k,k<=o.slots.length->(∀ y,y≠h->(M.bI h k).ob y=M.ob y)/\∃ o',(M.bI h k).ob h=some o'/\aBs o o' k
 | 0,_=>⟨fun _ _=>rfl,o,ho,rfl,rfl,fun j hj=>by omega,fun _ _=>rfl,fun _ _=>rfl⟩
 | k+1,hkl=>by
  obtain ⟨h1,o',h2,d⟩:=aDZ hk ho k (by omega);have h5:=(vT hk h k).1;have h4:k<o'.slots.length:=by rw [d.ln];omega
  have hr:=aHv h2 h4;unfold Hp.bI;split
  ·rename_i e;rw [hr,d.rf] at e;have e2:=Hp.aMb h5.ok h2 h4;rw [e2];refine ⟨fun y hy=>?_,o'.put k 0,aZ _ _ _,d.rf,?_,fun j hj h0=>?_,fun j hj=>?_,fun j hj=>?_⟩
   ·show eU (M.bI h k).ob h _ y=_;rw [bD _ _ hy];exact h1 y hy
   ·show (o'.slots.set k 0).length=_;rw [List.length_set];exact d.ln
   ·show gI (o'.slots.set k 0) j=0;rw [mX h4];split
    ·rfl
    exact d.z j (by omega) h0
   ·show gI (o'.slots.set k 0) j=_;rw [mX h4,if_neg (fun e3=>by rw [e3,e] at hj;cases hj)]
    exact d.w j hj
   show gI (o'.slots.set k 0) j=_;rw [mX h4,if_neg (by omega)];exact d.r j (by omega)
  rename_i e;rw [hr,d.rf] at e;refine ⟨h1,o',h2,d.rf,d.ln,fun j hj h0=>?_,d.w,fun j hj=>d.r j (by omega)⟩
  by_cases ej:j=k
  ·rw [ej] at h0;exact absurd h0 e
  exact d.z j (by omega) h0
theorem aJv {o:Th} (h:∀ j,j<o.slots.length->gB o.refs j=true->gI o.slots j=0):o.fJ=[]:=by
 cases e:o.fJ with
 | nil=>rfl
 | cons y l=>
  obtain ⟨s,z,d,h2,h3⟩:=Th.nU (o:=o) (k:=o.slots.length) (x:=y) (by show y∈o.fJ;rw [e];simp);exact absurd ((h s z d).symm.trans h2).symm h3
theorem aNC (d:M.OkF) (z:M.ob h=some o):(∀ y,y≠h->(M.blank h).ob y=M.ob y)/\∃ o',(M.blank h).ob h=some o'/\aBs o o' o.slots.length:=by
 have e:(M.len h).toNat=o.slots.length:=by unfold Hp.len Hp.type;rw [z];exact Int.toNat_natCast _
 unfold Hp.blank;rw [e];exact aDZ d z _ (Nat.le_refl _)
theorem aBs.bare {o o':Th} (h:aBs o o' o.slots.length):o'.fJ=[]:=aJv fun j y d=>h.z j (by rw [<-h.ln];exact y) (by rw [<-h.rf];exact d)
theorem aEa (hk:M.OkF) {l:List Int} (hn:l.Nodup) (hu:∀ x∈l,(M.ob x).isSome=true):∀ k,k<=l.length->(∀ y,(∀ j,j<k->gI l j≠y)->(M.bK l k).ob y=M.ob y)/\∀ j,j<k->∃ o o',M.ob (gI l j)=some o/\(M.bK l k).ob (gI l j)=some o'/\aBs o o' o.slots.length
 | 0,_=>⟨fun _ _=>rfl,fun j d=>by omega⟩
 | k+1,hkl=>by
  obtain ⟨h1,h2⟩:=aEa hk hn hu k (by omega);have h6:=(nH hk l k).1;have z:∀ j,j<k->gI l j≠gI l k:=fun j d e=>by
   rw [aBh (show j<l.length by omega),aBh (show k<l.length by omega)] at e;have:=(List.pairwise_iff_getElem.1 (List.nodup_iff_pairwise_ne.1 hn)) j k (by omega) (by omega) d;exact this e
  obtain ⟨o,ho⟩:=Option.isSome_iff_exists.1 (hu (gI l k) (dX.2 ⟨k,by omega,rfl⟩));have h0:(M.bK l k).ob (gI l k)=some o:=by rw [h1 _ z];exact ho
  obtain ⟨h3,o',h4,h5⟩:=aNC h6 h0;refine ⟨fun y hy=>?_,fun j d=>?_⟩
  ·show ((M.bK l k).blank (gI l k)).ob y=_;rw [h3 y (fun e=>hy k (by omega) e.symm)];exact h1 y (fun j d=>hy j (by omega))
  by_cases e:j=k
  ·rw [e];exact ⟨o,o',ho,h4,h5⟩
  obtain ⟨o1,o2,a1,a2,a3⟩:=h2 j (by omega);refine ⟨o1,o2,a1,?_,a3⟩;show ((M.bK l k).blank (gI l k)).ob (gI l j)=_;rw [h3 _ (z j (by omega))];exact a2
theorem aFp (hk:M.OkF) {l:List Int} (hn:l.Nodup) (hu:∀ x∈l,(M.ob x).isSome=true):(∀ y,y∉l->(M.bK l l.length).ob y=M.ob y)/\∀ x,x∈l->∃ o o',M.ob x=some o/\(M.bK l l.length).ob x=some o'/\aBs o o' o.slots.length:=by
 obtain ⟨d,h2⟩:=aEa hk hn hu l.length (Nat.le_refl _);refine ⟨fun y hy=>d y (fun j z e=>hy (dX.2 ⟨j,z,e⟩)),fun x hx=>?_⟩;obtain ⟨j,z,e⟩:=dX.1 hx;rw [<-e];exact h2 j z
theorem aCP (hk:M.Ok) (ho:M.ob h=some o) (d:∀ k t,k≠h->M.ob k=some t->h∉t.fJ):M.release h=(0,M.drop h o):=by
 refine aGR ho ?_
 cases e:M.held h with
 | false=>rfl
 | true=>
  obtain ⟨k,_,y⟩:=Hp.mJ.1 e;unfold Hp.refers at y
  cases z:M.ob ((k:Int)+1) with
  | none=>rw [z] at y;simp at y
  | some t=>
   rw [z] at y;simp at y;exact absurd y.2 (d _ t y.1 z)
end
structure Prg (M0:Hp) (roots:List Int) (c:Co):Prop where
 en:c.t.ents=[]
 p1:c.ph=1->c.m.M=M0/\aAp roots c.m
 p2:c.ph=2->c.m.M=M0/\aAp roots c.m/\c.m.list=[]
 p3:c.ph=3->(∀ k,M0.Rch roots k->c.m.M.ob k=M0.ob k)/\(∀ k,k∈c.sw->¬ M0.Rch roots k/\∃ o,c.m.M.ob k=some o/\o.fJ=[])/\∀ k,(c.m.M.ob k).isSome=true->M0.Rch roots k\/k∈c.sw
 p4:c.ph=4\/c.ph=0->∀ k,(c.m.M.ob k).isSome=true↔M0.Rch roots k
 p5:c.ph=4->∃ P0:Pl,P0.ok/\P0.n=c.pages/\c.mv+c.m.M.P.pot<=P0.pot/\∀ k,IsC k->P0.has k=true->c.m.M.P.has k=true
 p0:c.ph=0->c.m.M.P.moves=0
section
variable {c:Co} {M0:Hp} {roots:List Int}
theorem Tb.xU (t:Tb) (m:Mk):(t.settle m).ents=t.ents:=by
 have e:∀ (s:Tb) n,(s.aAr n).ents=s.ents:=fun _ _=>rfl;have z:∀ s:Tb,(s.qV m).ents=s.ents:=fun s=>by unfold Tb.qV;split<;>rfl
 have y:∀ (s:Tb) n,(s.set2 m n).ents=s.ents:=fun s n=>by
  unfold Tb.set2;split
  ·rfl
  exact z _
 have d:∀ (s:Tb) n,(s.set1 m n).ents=s.ents:=fun s n=>by
  unfold Tb.set1;split
  ·rfl
  exact (y _ _).trans rfl
 unfold Tb.settle;split
 ·exact d _ _
 split
 ·exact y _ _
 split
 ·exact z _
 split
 ·exact e _ _
 rfl
theorem aID {t:Tb} {m:Mk} (hg:t.Good m) (he:t.ents=[]) (hl:m.list=[]):(t.step m).2.2.1≠0/\(t.step m).2.2.2.2=m/\(t.step m).2.2.2.1.ents=[]:=by
 unfold Tb.step
 by_cases d:t.ph=0
 ·rw [if_pos d];exact ⟨by show ¬ ((13:Int)=0);decide,rfl,he⟩
 rw [if_neg d];have z:=Tb.dA (m:=m) (t:=t) (by omega) hg.p4;have y:(t.settle m).ents=[]:=(t.xU m).trans he;simp only;generalize t.settle m=s at*;rw [if_neg (fun e=>z.c e hl),if_pos (by rw [y];exact Nat.zero_le _)];exact ⟨by show ¬ ((3:Int)=0);decide,rfl,y⟩
theorem aIw {x y:Int} {o:Th} (h:M0.Rch roots x) (z:M0.ob x=some o) (d:y∈o.fJ):M0.Rch roots y:=.step h z d
theorem Prg.step (hk:c.Okc) (hn:c.Pn) (h:Prg M0 roots c) (x7:M0.OkF) (hb:¬ M0.bZ roots) (hp:c.ph≠0):Prg M0 roots c.step.2.2:=by
 unfold Co.step;rw [if_neg hp]
 by_cases h1:c.ph=1
 ·rw [if_pos h1];obtain ⟨a1,a2⟩:=h.p1 h1
  by_cases hl:c.m.list=[]
  ·rw [if_pos hl];have x8:c.t.begin c.m=(0,(c.t.at 1 0).settle c.m):=by
    unfold Tb.begin;rw [if_neg (by intro h5;rcases h5 with h5|h5;exact h5 (hk.t0 (by omega));exact h5 hl)]
   exact ⟨by show (c.t.begin c.m).2.ents=[];rw [x8];exact (Tb.xU _ _).trans h.en,fun e=>absurd e (by show ¬ (2:Nat)=1;decide),fun _=>⟨a1,a2,hl⟩,fun e=>absurd e (by show ¬ (2:Nat)=3;decide),fun e=>absurd e (by show ¬ ((2:Nat)=4\/(2:Nat)=0);decide),fun e=>absurd e (by show ¬ (2:Nat)=4;decide),fun e=>absurd e (by show ¬ (2:Nat)=0;decide)⟩
  rw [if_neg hl];have hm:=hk.mo (.inl h1);exact ⟨h.en,fun _=>⟨by show c.m.step.2.2.M=_;rw [Mk.nM];exact a1,a2.step hm⟩,fun e=>absurd (show c.ph=2 from e) (by omega),fun e=>absurd (show c.ph=3 from e) (by omega),fun e=>absurd (show c.ph=4\/c.ph=0 from e) (by omega),fun e=>absurd (show c.ph=4 from e) (by omega),fun e=>absurd (show c.ph=0 from e) hp⟩
 rw [if_neg h1]
 by_cases h2:c.ph=2
 ·rw [if_pos h2];obtain ⟨a1,a2,hl⟩:=h.p2 h2;have hm:=hk.mo (.inr h2);obtain ⟨b1,b2,b3⟩:=aID hk.tg h.en hl;show Prg M0 roots c.refs.2;rw [Co.fV,if_neg b1];have e1:c.stepT.m=c.m:=b2;unfold Co.tail;rw [if_pos (by rw [e1];exact hl)];have hw:∀ x,x∈c.m.white↔(c.m.M.ob x).isSome=true/\¬ M0.Rch roots x:=fun x=>by
   rw [Mk.yX hk.hf.ok];have:=a2.done hm hl x;rw [a1] at this ⊢;constructor
   ·rintro ⟨c1,c2⟩;exact ⟨c1,fun e=>by have:=this.1.2 e;omega⟩
   rintro ⟨c1,c2⟩;exact ⟨c1,this.2 (fun e=>c2 (this.1.1 e))⟩
  obtain ⟨d1,d2⟩:=aFp (M:=c.m.M) hk.hf (l:=c.m.white) (Mk.xI _) (fun x hx=>((hw x).1 hx).1);unfold Co.jG;rw [e1];generalize c.m.white=ws at*;refine ⟨b3,fun e=>(by cases e),fun e=>(by cases e),fun _=>?_,fun e=>(by rcases e with e|e<;>cases e),fun e=>(by cases e),fun e=>by cases e⟩
  show (∀ k,M0.Rch roots k->(c.stepT.m.M.bK ws ws.length).ob k=M0.ob k)/\(∀ k,k∈ws->¬ M0.Rch roots k/\∃ o,(c.stepT.m.M.bK ws ws.length).ob k=some o/\o.fJ=[])/\∀ k,((c.stepT.m.M.bK ws ws.length).ob k).isSome=true->M0.Rch roots k\/k∈ws;rw [e1];refine ⟨fun k hr=>?_,fun k z=>⟨((hw k).1 z).2,?_⟩,fun k hs=>?_⟩
  ·rw [d1 k (fun e=>((hw k).1 e).2 hr),a1]
  ·obtain ⟨o,o',_,f2,f3⟩:=d2 k z;exact ⟨o',f2,f3.bare⟩
  by_cases e:k∈ws
  ·exact .inr e
  rw [d1 k e] at hs;exact .inl (Classical.not_not.1 (fun d=>e ((hw k).2 ⟨hs,d⟩)))
 rw [if_neg h2]
 by_cases h3:c.ph=3
 ·rw [if_pos h3];obtain ⟨a1,a2,a3⟩:=h.p3 h3;show Prg M0 roots c.free.2;unfold Co.free
  cases e:c.sw with
  | nil=>
   refine ⟨h.en,fun e=>(by cases e),fun e=>(by cases e),fun e=>(by cases e),fun _ k=>?_,fun _=>⟨c.m.M.P,hk.hf.ok.p,hn,?_,fun _ _ x=>x⟩,fun e=>by cases e⟩
   ·constructor
    ·intro hs;rcases a3 k hs with h4|h4
     ·exact h4
     rw [e] at h4;cases h4
    intro hr;show (c.m.M.ob k).isSome=true;rw [a1 k hr];exact (Hp.Rch.some x7.ok hb hr).1
   show 0+c.m.M.P.pot<=c.m.M.P.pot;omega
  | cons x r=>
   have hx:x∈c.sw:=by rw [e];exact List.mem_cons_self
   obtain ⟨b1,o,b2,b3⟩:=a2 x hx;have x9:=aCP hk.hf.ok b2 (fun k t x4 ht h0=>by
    rcases a3 k (by rw [ht];rfl) with h4|h4
    ·exact b1 (aIw h4 (by rw [<-a1 k h4];exact ht) h0)
    obtain ⟨_,o2,g1,g2⟩:=a2 k h4;rw [ht] at g1
    cases g1
    rw [g2] at h0
    cases h0)
   have h6:∀ k,k≠x->(c.m.M.release x).2.ob k=c.m.M.ob k:=fun k z=>mD _ z;have x6:(c.m.M.release x).2.ob x=none:=by
    rw [x9];exact aZ _ _ _
   have x3:=hk.sn;rw [e] at x3;refine ⟨h.en,fun d=>absurd (show c.ph=1 from d) h1,fun d=>absurd (show c.ph=2 from d) h2,fun _=>⟨fun k hr=>?_,fun k hkr=>?_,fun k hs=>?_⟩,fun d=>absurd (show c.ph=4\/c.ph=0 from d) (by omega),fun d=>absurd (show c.ph=4 from d) (by omega),fun d=>absurd (show c.ph=0 from d) hp⟩
   ·show (c.m.M.release x).2.ob k=_;rw [h6 k (fun d=>b1 (by rw [<-d];exact hr))];exact a1 k hr
   ·have x1:k∈r:=hkr;have x4:k≠x:=fun d=>(List.nodup_cons.1 x3).1 (by rw [<-d];exact x1);obtain ⟨g0,o2,g1,g2⟩:=a2 k (by rw [e];exact List.mem_cons_of_mem _ x1);exact ⟨g0,o2,(h6 k x4).trans g1,g2⟩
   have h7:((c.m.M.release x).2.ob k).isSome=true:=hs
   by_cases d:k=x
   ·rw [d,x6] at h7;cases h7
   rw [h6 k d] at h7;rcases a3 k h7 with h4|h4
   ·exact .inl h4
   rw [e] at h4;rcases List.mem_cons.1 h4 with h5|h5
   ·exact absurd h5 d
   exact .inr h5
 rw [if_neg h3];have h4:c.ph=4:=by have:=hk.p4;omega
 obtain ⟨P0,g1,g2,g3,g4⟩:=h.p5 h4;have x2:=h.p4 (.inl h4);show Prg M0 roots c.move.2;unfold Co.move;split
 ·rename_i hc;refine ⟨h.en,fun e=>(by cases e),fun e=>(by cases e),fun e=>(by cases e),fun _=>x2,fun e=>(by cases e),fun _=>?_⟩;show c.m.M.P.moves=0
  by_cases he:c.m.M.P.move.2.2.1=0
  ·rcases hc with hc|hc
   ·exfalso;have h8:c.m.M.move.2.1=0:=by
     obtain ⟨y,o,_,_,h9,_⟩:=hk.hf.rW he;rw [h9]
    obtain ⟨q1,q2⟩:=hk.hf.ok.aFS h8;have:=aEP g1 (hk.hf.move).ok.p (by rw [aNT,g2];exact hn) (k:=c.mv+1) (by omega) (fun k z hh=>q2 k z (g4 k z hh));omega
   exact absurd he hc
  cases x5:c.m.M.P.pair with
  | none=>exact Pl.aAT x5
  | some y=>obtain ⟨i,j⟩:=y;rw [Pl.dK x5] at he;exact absurd rfl he
 rename_i hc;have he:c.m.M.P.move.2.2.1=0:=Classical.not_not.1 (fun e=>hc (.inr e));have h8:c.m.M.move.2.1=0:=by
  obtain ⟨y,o,_,_,h9,_⟩:=hk.hf.rW he;rw [h9]
 obtain ⟨q1,q2⟩:=hk.hf.ok.aFS h8;refine ⟨h.en,fun e=>absurd (show c.ph=1 from e) h1,fun e=>absurd (show c.ph=2 from e) h2,fun e=>absurd (show c.ph=3 from e) h3,fun _ k=>?_,fun _=>⟨P0,g1,g2,?_,fun k z hh=>q2 k z (g4 k z hh)⟩,fun e=>absurd (show c.ph=0 from e) hp⟩
 ·show (c.m.M.move.2.2.ob k).isSome=true↔_;rw [aDh];exact x2 k
 show c.mv+1+c.m.M.move.2.2.P.pot<=P0.pot;omega
theorem Prg.steps (z:c.Okc) (d:c.Pn) (h:Prg M0 roots c) (y:M0.OkF) (hb:¬ M0.bZ roots):∀ k,(∀ j,j<k->(Co.steps j c).ph≠0)->Prg M0 roots (Co.steps k c)
 | 0,_=>h
 | k+1,hj=>(Prg.steps z d h y hb k (fun j e=>hj j (by omega))).step (z.steps k) (d.steps z k) y hb (hj k (by omega))
theorem aAF (h:c.Ok) (hn:c.Pn) (he:c.t.ents=[]) (hp:c.ph=0) {l:List Int} (hl:l.length<=192) (hb:¬ c.m.M.bZ l):(c.begin l).1=0/\(c.begin l).2.finish.2.2.1=0/\(c.begin l).2.finish.2.2.2.m.M.handles=c.m.M.jZ l/\(c.begin l).2.finish.2.2.2.ph=0/\(c.begin l).2.finish.2.2.2.cr=0/\(c.begin l).2.finish.2.2.2.m.M.P.moves=0:=by
 have y:c.begin l=(0,{ c with m:=(Mk.start c.m.M).aY l,ph:=1,cr:=-1 - (l.length:Int),mv:=0 }):=by
  unfold Co.begin;rw [if_neg (by omega),if_neg (fun e=>e hp),if_neg hb]
 have z:=h.begin l;have h4:=hn.begin l;have d:=z.finish;have hM:((Mk.start c.m.M).aY l).M=c.m.M:=Mk.jP _ _;have h1:Prg c.m.M l (c.begin l).2:=by
  rw [y];exact ⟨he,fun _=>⟨hM,aAp.start h.k.hf hb⟩,fun e=>(by cases e),fun e=>(by cases e),fun e=>(by rcases e with e|e<;>cases e),fun e=>(by cases e),fun e=>by cases e⟩
 have h3:(c.begin l).2.ph≠0:=by rw [y];show ¬ (1:Nat)=0;decide
 have h0:(c.begin l).2.finish=(((c.begin l).2.aGm:Int),Co.costs (c.begin l).2.aGm (c.begin l).2,0,Co.steps (c.begin l).2.aGm (c.begin l).2):=by
  unfold Co.finish;rw [if_neg h3]
 obtain ⟨f1,f2,_⟩:=Co.zY z.k;have h2:=Prg.steps z.k h4 h1 h.k.hf hb (c.begin l).2.aGm f2;rw [h0] at d ⊢;exact ⟨by rw [y],rfl,aBW (h2.p4 (.inr f1)),f1,d.1.k.c0 f1,h2.p0 f1⟩
end
end Go.Proofs.YthflghdaejbdkaaGreat
namespace Go.Proofs.YthflghdaejbdkaaGreat
open _root_.Go.Proofs.Tryz (prog)
open Go.RowKit Go.Maps Go.Sort Go.Shelf
set_option maxHeartbeats 3200000
set_option maxRecDepth 100000
set_option linter.unusedVariables false
def xC:Value->Option (DataW Unit×List MemPlace)
 | .bool b=>some (.lit (.bool b),[])
 | _=>none
theorem aDY {v:Value} {y:DataW Unit×List MemPlace} (h:xC v=some y):∃ b,v=.bool b/\y=(.lit (.bool b),[]):=by
 unfold xC at h;split at h
 ·cases h;exact ⟨_,rfl,rfl⟩
 cases h
def qQ (w:World) (y n:Nat) (S:Int->Bool):Prop:=
 ∃ D:DataW Unit,w.ownsMap prog 3 xC y n D/\∀ k,wfI k->Maps.has D (.int .i64 k)=S k/\(S k=true->∀ z,D.atKey (.int .i64 k) z=.lit (.bool true))
theorem aLD (w:World):(zeroValue 4).run prog w=.ok (.bool false) w:=by kernel_rfl
section
variable {w w':World} {mb n:Nat} {S:Int->Bool}
theorem qQ.only {F:List Nat} (h:qQ w mb n S) (hg:Only F w w') (hS:mb∉F):qQ w' mb n S:=by
 obtain ⟨D,d,hf⟩:=h;have z:=d.lt;obtain ⟨e,y,hb,r⟩:=d;exact ⟨D,⟨e,y,(hg.block mb z hS).trans hb,r⟩,hf⟩
theorem qQ.look (h:qQ w mb n S) {k:Int} (hk:wfI k):(Instr.lookup 114 (.map (some mb)) (.int .i64 k) false).run prog w=.ok (.bool (S k)) w:=by
 obtain ⟨D,hD,hf⟩:=h;obtain ⟨v,ps,y,hv⟩:=hD.lookup iE Tryz.underlying114 (aLD w) (zd:=.lit (.bool false)) (zp:=[]) rfl (aLt hk);obtain ⟨b,rfl,z⟩:=aDY hv;rw [y];obtain ⟨d,h2⟩:=hf k hk
 cases e:S k with
 | false=>
  rw [e] at d;have h3:=Maps.atKey_of_not_has d (.lit (.bool false):DataW Unit);rw [h3] at z;have:=congrArg Prod.fst z;simp at this;rw [<-this]
 | true=>
  rw [h2 e] at z;have:=congrArg Prod.fst z;simp at this;rw [<-this]
theorem qQ.made (w:World):qQ (w.alloc (.map #[] 0)) w.heap.size 0 (fun _=>false):=
 ⟨.map [],World.ownsMap_made _ _ _ _,fun k _=>⟨rfl,fun h=>by cases h⟩⟩
theorem qQ.store (h:qQ w mb n S) (hn:n<1000000) {k:Int} (hk:wfI k):∃ w',(Instr.mapUpdate 114 (.map (some mb)) (.int .i64 k) (.bool true)).run prog w=.ok () w'/\
  qQ w' mb (n+1) (fun j=>if j=k then true else S j)/\w.grownBy w' (some mb):=by
 obtain ⟨D,hD,hf⟩:=h;obtain ⟨w',h1,h2,h3⟩:=hD.update iE Tryz.underlying114 (by simp only [maxLen];omega) (aLt hk) (show xC (.bool true)=some (.lit (.bool true),[]) from rfl);refine ⟨w',h1,⟨_,h2,fun j y=>?_⟩,h3⟩;have hm:=hD.isMap
 by_cases e:j=k
 ·subst e;have d:(fun i=>if i=j then true else S i) j=true:=if_pos rfl;rw [d];exact ⟨Maps.has_put_same hm (zD j y) _,fun _ z=>Maps.atKey_put_same hm (zD j y) _ z⟩
 have d:(fun i=>if i=k then true else S i) j=S j:=if_neg e;rw [d];refine ⟨by rw [Maps.has_put_other (pW e)];exact (hf j y).1,fun hc z=>?_⟩;rw [Maps.atKey_put_other (pW e)];exact (hf j y).2 hc z
end
theorem aEV (w:World) (y:Option Nat):Calls prog 134 #[.map y] w fun e w'=>e=.returned (.func (.func 203) #[] #[.pointer (some ⟨w.heap.size,0,none⟩)])/\w'=w.alloc (.cells #[.map y] 114):=
 callsIn_wide.1 (AnyZI.keys_in Tryz.keysB Fence.wide 5 trivial rfl y w)
theorem aBB {w:World} {z n:Nat} {S:Int->Bool} (h:qQ w z n S) (hn:n<=1000000) {l:List Int} (hl:l.Pairwise (·<·)) (hm:∀ x,x∈l->wfI x) (hf:∀ x,wfI x->(S x=true↔x∈l)) :
  Calls prog 133 #[.func (.func 203) #[] #[.pointer (some ⟨w.heap.size,0,none⟩)]] (w.alloc (.cells #[.map (some z)] 114)) fun e w'=>
   ∃ v,e=.returned v/\aN w' w.heap.size v l/\Only [] w w':=by
 obtain ⟨D,hD,h2⟩:=h;have h3:=hD.lt;have h4:=hD.size_le;have h1:SeqGives Fence.wide 2 prog 203 #[.pointer (some ⟨w.heap.size,0,none⟩)] encZ (fun ss=>ss.Perm (intKeys D)) (Maps.size D) (w.alloc (.cells #[.map (some z)] 114)):=
  AnyZI.keys_gives (ρ:=Tryz.keysB_ren) { Tryz.keysB with } Fence.wide _ trivial rfl (by omega) w.heap.size z n D _ (by simp) (by simp) (hD.alloc _)
 have cS:=AnyZI.sorted_in Tryz.sortedA Fence.wide 5 trivial trivial trivial trivial rfl (by omega) (aNJ _) (enters_of Tryz.func202 (by kernel_rfl) rfl) 203 #[.pointer (some ⟨w.heap.size,0,none⟩)] trivial (enters_of Tryz.func203 (by kernel_rfl) rfl) _ _ (by simp only [maxLen];omega) (by omega) _ h1;change CallsIn _ _ prog 133 _ _ _ at cS;refine (callsIn_wide.1 cS).mono ?_;rintro e w' ⟨v,ss,rfl,hS,y,_,hb⟩;have d:=aCF hD iE Tryz.underlying3 hl hm (fun x hx=>by rw [(h2 x hx).1];exact hf x hx) hS;have h0:ss.length=l.length:=by rw [<-d,List.length_mergeSort]
 rw [d,h0] at y;have ho:=aBn hb rfl;refine ⟨v,rfl,?_,((Only.refl [] w).alloc _).trans ho (by simp)⟩;have hI:aN w' (w.alloc (.cells #[.map (some z)] 114)).heap.size v l:=y;exact hI.base (by simp)
end Go.Proofs.YthflghdaejbdkaaGreat
namespace Go.Proofs.YthflghdaejbdkaaGreat
open _root_.Go.Proofs.Tryz (prog)
open Go.RowKit
set_option maxHeartbeats 1600000
set_option maxRecDepth 100000
set_option linter.unusedVariables false
def Qsl (w:World) (base:Nat) (v:Value) (l:List Int):Prop:=
 (v=.slice none 0 0/\l=[])\/∃ (g y cap T:Nat) (cs:List Value),v=.slice (some ⟨g,y,none⟩) l.length cap/\base<=g/\Row w g T cs/\l.length<=cap/\y+cap<=cs.length/\∀ j,j<l.length->cs[y+j]?=some (.int .i64 (gI l j))
theorem aNc {l:List Int} {x:Int} {j:Nat}:gI (l ++ [x]) j=if j<l.length then gI l j else if j=l.length then x else 0:=by
 unfold gI
 by_cases h:j<l.length
 ·rw [if_pos h,List.getElem?_append_left h]
 rw [if_neg h,List.getElem?_append_right (by omega)]
 by_cases e:j=l.length
 ·rw [if_pos e,e];simp
 rw [if_neg e,List.getElem?_eq_none (by simp;omega)];rfl
section
variable {w w':World} {base:Nat} {v:Value} {l:List Int}
theorem Qsl.nil (w:World) (base:Nat):Qsl w base (.slice none 0 0) []:=.inl ⟨rfl,rfl⟩
theorem Qsl.ofInts (h:aN w base v l):Qsl w base v l:=by
 rcases h.2 with ⟨d,e⟩|⟨g,cap,y,hv,hg,hh,hc,hm,hs,ht⟩
 ·exact .inl ⟨d,List.eq_nil_of_length_eq_zero e⟩
 refine .inr ⟨g,0,cap,3,y.toList,hv,hg,hh,hc,by simp [hs],fun j hj=>?_⟩;have z:(y.toList.take (l.length*1))[j]?=some (.int .i64 (gI l j)):=by
  rw [ht,List.getElem?_map];unfold gI;rw [List.getElem?_eq_getElem hj];rfl
 rw [List.getElem?_take_of_lt (by omega)] at z;rw [Nat.zero_add];exact z
theorem Qsl.len (h:Qsl w base v l):∃ a cap,v=.slice a l.length cap:=by
 rcases h with ⟨y,z⟩|⟨g,d,cap,T,cs,y,_⟩
 ·exact ⟨none,0,by rw [y,z];rfl⟩
 exact ⟨_,cap,y⟩
theorem Qsl.own (h:Qsl w base v l):∀ k,v.ownBlock=some k->base<=k/\k<w.heap.size:=by
 intro k y;rcases h with ⟨z,_⟩|⟨g,h0,cap,T,cs,z,d,e,_⟩
 ·rw [z] at y;cases y
 rw [z] at y;cases y;exact ⟨d,e.lt⟩
theorem Qsl.only {F:List Nat} (h:Qsl w base v l) (ho:Only F w w') (hF:∀ k,v.ownBlock=some k->k∉F):Qsl w' base v l:=by
 rcases h with y|⟨g,z,cap,T,cs,y,d,e,h4⟩
 ·exact .inl y
 exact .inr ⟨g,z,cap,T,cs,y,d,ho.row e (hF g (by rw [y];rfl)),h4⟩
theorem Qsl.alloc (h:Qsl w base v l) (o:Obj):Qsl (w.alloc o) base v l:=h.only ((Only.refl [] w).alloc o) (by simp)
theorem Qsl.head {x:Int} (h:Qsl w base v (x :: l)):∃ g y cap,v=.slice (some ⟨g,y,none⟩) (l.length+1) cap/\w.cell? ⟨g,y,none⟩=some (.int .i64 x)/\l.length+1<=cap/\Qsl w base (.slice (some ⟨g,y+1,none⟩) l.length (cap - 1)) l:=by
 rcases h with ⟨_,z⟩|⟨g,y,cap,T,cs,z,h2,e,h4,h5,h6⟩
 ·cases z
 have d:l.length+1<=cap:=h4;refine ⟨g,y,cap,z,e.cell y (h6 0 (by simp)),d,.inr ⟨g,y+1,cap - 1,T,cs,rfl,h2,e,by omega,by omega,fun j hj=>?_⟩⟩;have:=h6 (j+1) (by simp;omega);rw [show y+1+j=y+(j+1) by omega];exact this
theorem aFs {ops:Array Oper} {x5:List Oper} {o:Oper} {a:Act} {Q:Exit->Act->World->Prop} (x6:o.guard=none) (s x:Operand)
  (ho:o.op=.call { callee:=.builtin .append,args:=#[s,x],argTypes:=#[23,23] })
  (base:Nat) (v:Value) (l:List Int) (hs:a.eval s=v) (h7:Qsl w base v l)
  (b:Nat) (y:Int) (hx:a.eval x=.slice (some ⟨b,0,none⟩) 1 1) (x1:w.cell? ⟨b,0,none⟩=some (.int .i64 y))
  (x4:l.length+1<=17592186044416) (h8:base<=w.heap.size)
  (h:∀ v' w',Qsl w' base v' (l ++ [y])->Only v.ownBlock.toList w w'->(∀ k,v'.ownBlock=some k->v.ownBlock=some k\/w.heap.size<=k)->wpList prog ops Q x5 (a.put o.dst v') w'):wpList prog ops Q (o :: x5) a w:=by
 rcases h7 with ⟨rfl,rfl⟩|⟨g,d,cap,T,cs,rfl,h2,h3,h4,h5,h6⟩
 ·refine bH x6 s x ho base _ [] hs (aN.nil w base) b y hx x1 x4 h8 (fun v' w' h1 h2 h3=>h v' w' (Qsl.ofInts h1) h2 (fun k hk=>by rcases h3 with h3|h3<;>rw [h3] at hk;exact .inl hk;cases hk;exact .inr (Nat.le_refl _)))
 obtain ⟨i0,hi,y1,x3,y2⟩:=info_parts jO;have h9:∀ j u,[Value.int .i64 y][j]?=some u->w.cell? ((⟨b,0,none⟩:Addr).add j)=some u:=fun j u hu=>by
  cases j with
  | zero=>simp at hu;subst hu;exact x1
  | succ j=>simp at hu
 refine wpList_plain x6 fun K hK=>?_
 by_cases x2:l.length+1<=cap
 ·have x7:d+l.length<cs.length:=by omega
  have h0:=run_append_room_cells (P:=prog) w 23 o.type 3 i0 Tryz.underlying23 hi g d l.length cap ⟨b,0,none⟩ 1 1 [.int .i64 y] (by rw [x3];rfl) h9 (by simp [Value.oneCell']) x2
   (fun j hj=>by
    have y0:j=0:=by simp at hj;omega
    rw [x3,y0,Nat.mul_one,Nat.add_zero,h3.cell (d+l.length) (List.getElem?_eq_getElem x7)];rfl)
   (fun j hj=>by exact h3.free _)
  rw [x3,Nat.mul_one] at h0;have hw:w.setCells g (d+l.length) [.int .i64 y]=w.setCell ⟨g,d+l.length,none⟩ (.int .i64 y):=rfl;rw [hw] at h0;unfold Oper.wp;simp [execOp,ho,resolve,invoke,builtin,hs,hx,h0,Result.andThen];refine hK _ _ (h _ _ (.inr ⟨g,d,cap,T,cs.set (d+l.length) (.int .i64 y),by simp,h2,h3.set _ _,by simpa using x2,by simpa using h5,fun j hj=>?_⟩) ((Only.refl _ w).set (.inl (by simp [Value.ownBlock])) _) (fun k hk=>.inl hk));rw [aNc,List.getElem?_set]
  by_cases e:j=l.length
  ·rw [if_pos (by omega),if_pos x7,if_neg (by omega),if_pos e]
  have x8:j<l.length:=by simp at hj;omega
  rw [if_neg (by omega),if_pos x8];exact h6 j x8
 obtain ⟨v',w',h0,h7,x9⟩:=run_append_arg_grows (P:=prog) w 23 o.type 3 i0 _ 1 8 Tryz.underlying23 hi y1 x3 y2 rfl (by omega) ⟨g,d,none⟩ l.length cap (l.map (Value.int .i64)) (by simp)
  (fun j u hu=>by
   rw [List.getElem?_map] at hu
   cases e:l[j]? with
   | none=>rw [e] at hu;cases hu
   | some z=>
    rw [e] at hu
    cases hu
    have hj:=(List.getElem?_eq_some_iff.1 e).1;have:=h3.cell (d+j) (h6 j hj);rw [show gI l j=z by unfold gI;rw [e];rfl] at this;rw [Addr.add_lit];exact this) ⟨b,0,none⟩ 1 1 [.int .i64 y] (by simp) h9 (by omega) (by simp only [maxLen];omega) (by omega)
 have hI:aN w' w.heap.size v' (l ++ [y]):=by
  unfold aN;rw [List.length_append,List.map_append];exact h7
 unfold Oper.wp;simp [execOp,ho,resolve,invoke,builtin,hs,hx,h0,Result.andThen];exact hK _ _ (h _ _ (Qsl.ofInts (hI.base h8)) ((Only.refl _ w).grown x9 (fun k hk=>by cases hk)) (fun k hk=>.inr (hI.own k hk).1))
end
end Go.Proofs.YthflghdaejbdkaaGreat
namespace Go.Proofs.YthflghdaejbdkaaGreat
open _root_.Go.Proofs.Tryz (prog)
open Go.RowKit Go.Maps
set_option maxHeartbeats 6400000
set_option maxRecDepth 100000
set_option linter.unusedVariables false
def aAG (S:Int->Bool):Nat:=cnt (fun k=>S ((k:Int)+1)) 192
theorem vG (S:Int->Bool):aAG S<=192:=qY _ _
structure vM (S:Int->Bool) (Q:List Int) (S2:Int->Bool) (Q2:List Int) (l:List Int) (i:Nat):Prop where
 sub:∀ x,S2 x=true↔S x=true\/(x≠0/\∃ j,j<i/\gI l j=x)
 mem:∀ x,x∈Q2↔x∈Q\/(S x=false/\S2 x=true)
 num:aAG S2+Q.length=aAG S+Q2.length
section
variable {S S2:Int->Bool} {Q Q2 l:List Int} {i:Nat}
theorem vM.start:vM S Q S Q l 0:=⟨fun x=>⟨.inl,fun h=>by rcases h with h|⟨_,j,h,_⟩;exact h;omega⟩,fun x=>⟨.inl,fun h=>by rcases h with h|⟨h1,h2⟩;exact h;rw [h1] at h2;cases h2⟩,rfl⟩
theorem vM.skip (h:vM S Q S2 Q2 l i) (hx:gI l i=0\/S2 (gI l i)=true):vM S Q S2 Q2 l (i+1):=
 ⟨fun x=>by
  rw [h.sub x];constructor
  ·rintro (y|⟨y,j,d,z⟩)
   ·exact .inl y
   exact .inr ⟨y,j,by omega,z⟩
  rintro (y|⟨y,j,d,z⟩)
  ·exact .inl y
  by_cases e:j=i
  ·rw [e] at z;rcases hx with hx|hx
   ·exact absurd (z.symm.trans hx) y
   rw [z] at hx;exact (h.sub x).1 hx
  exact .inr ⟨y,j,by omega,z⟩,h.mem,h.num⟩
theorem vM.add (h:vM S Q S2 Q2 l i) {x:Int} (hx:gI l i=x) (h0:x≠0) (hr:1<=x/\x<=192) (hS:S2 x=false):vM S Q (fun j=>if j=x then true else S2 j) (Q2 ++ [x]) l (i+1)/\aAG (fun j=>if j=x then true else S2 j)=aAG S2+1:=by
 have d:aAG (fun j=>if j=x then true else S2 j)=aAG S2+1:=by
  obtain ⟨k,hk,rfl⟩:∃ k:Nat,k<192/\x=(k:Int)+1:=⟨(x - 1).toNat,by omega,by omega⟩;have z:cnt (fun j:Nat=>if (j:Int)+1=(k:Int)+1 then true else S2 ((j:Int)+1)) 192=cnt (up (fun j:Nat=>S2 ((j:Int)+1)) k true) 192:=gG (fun j _=>by
   by_cases e:j=k
   ·rw [e,bP,if_pos rfl]
   rw [aV _ _ e,if_neg (by omega)])
  show cnt (fun j:Nat=>if (j:Int)+1=(k:Int)+1 then true else S2 ((j:Int)+1)) 192=_;rw [z];exact aAg hk hS
 refine ⟨⟨fun y=>?_,fun y=>?_,?_⟩,d⟩
 ·show (if y=x then true else S2 y)=true↔_
  by_cases e:y=x
  ·rw [if_pos e];exact ⟨fun _=>.inr ⟨by rw [e];exact h0,i,by omega,by rw [hx,e]⟩,fun _=>rfl⟩
  rw [if_neg e,h.sub y];constructor
  ·rintro (z|⟨z,j,h2,h3⟩)
   ·exact .inl z
   exact .inr ⟨z,j,by omega,h3⟩
  rintro (z|⟨z,j,h2,h3⟩)
  ·exact .inl z
  by_cases ej:j=i
  ·rw [ej,hx] at h3;exact absurd h3.symm e
  exact .inr ⟨z,j,by omega,h3⟩
 ·rw [List.mem_append,h.mem y];show _↔y∈Q\/(S y=false/\(if y=x then true else S2 y)=true)
  by_cases e:y=x
  ·rw [if_pos e];constructor
   ·rintro ((z|z)|z)
    ·exact .inl z
    ·exact .inr ⟨z.1,rfl⟩
    refine .inr ⟨?_,rfl⟩
    cases hs:S y with
    | false=>rfl
    | true=>
     have:=(h.sub y).2 (.inl hs);rw [e,hS] at this
     cases this
   intro _;right;simp [e]
  rw [if_neg e];constructor
  ·rintro (z|z)
   ·exact z
   simp at z;exact absurd z e
  intro z;exact .inl z
 rw [d,List.length_append];have:=h.num;simp only [List.length_cons,List.length_nil];omega
end
structure Seen (w:World) (B vb lb mb:Nat) (lv:Value) (S:Int->Bool) (Q:List Int):Prop where
 rv:Row w vb 114 [.map (some mb)]
 rl:Row w lb 23 [lv]
 qs:Qsl w B lv Q
 st:qQ w mb (aAG S) S
 ne:vb≠lb/\mb≠vb/\mb≠lb/\vb<B/\lb<B/\mb<B
 bw:B<=w.heap.size
theorem xG {w:World} {B vb d mb:Nat} {lv:Value} {S:Int->Bool} {Q:List Int} (h:Seen w B vb d mb lv S Q) (a:Option Addr) (n c:Nat) (l:List Int) (x2:l.length=n) (hr:mY w (.slice a n c) l)
  (hv:0<n->∀ k,(Value.slice a n c).ownBlock=some k->k≠d/\k≠mb/\lv.ownBlock≠some k) (hn:n<=1000) (hw:∀ j,j<n->gI l j=0\/(1<=gI l j/\gI l j<=192)) (hQ:Q.length<=192) :
  Calls prog 131 #[.slice a n c,.pointer (some ⟨vb,0,none⟩),.pointer (some ⟨d,0,none⟩)] w (fun e w'=>e=.returned (.tuple #[])/\∃ y S2 Q2,Seen w' B vb d mb y S2 Q2/\vM S Q S2 Q2 l n/\aI (fun k=>k=d\/k=mb\/lv.ownBlock=some k) w w'/\∀ k,y.ownBlock=some k->lv.ownBlock=some k\/w.heap.size<=k):=by
 refine aF fun R hR=>?_;have y6:=aA h;have a0:Hid (∀ wx,aI (fun k=>k=d\/k=mb\/lv.ownBlock=some k) w wx->∀ i,i<n->∃ b o,a=some ⟨b,o,none⟩/\wx.cell? ⟨b,o+i,none⟩=some (.int .i64 (gI l i))):=fun wx h9 i hi=>by
  rcases hr with ⟨b,o,c,e,hc⟩|⟨oa,c,e,h0⟩
  ·cases e
   refine ⟨b,o,rfl,h9.cell (hc i (by omega)) ?_⟩;have:=hv (by omega) b rfl;rintro (e|e|e)
   ·exact this.1 e
   ·exact this.2.1 e
   exact this.2.2 e
  rw [h0] at x2;simp at x2;omega
 have HW:=aA hw;have HQ:=aA hQ;clear h hr hv hw x2 hQ;go_in;go_wp2;go_loopw [8] (fun iv wr=>∃ (i:Nat) (y:Value) (S2:Int->Bool) (Q2:List Int),i<=n/\iv=.int .i64 i/\Seen wr B vb d mb y S2 Q2/\vM S Q S2 Q2 l i/\aI (fun k=>k=d\/k=mb\/lv.ownBlock=some k) w wr/\∀ k,y.ownBlock=some k->lv.ownBlock=some k\/w.heap.size<=k) (fun iv _=>n - (intOf iv).toNat)
 case atStart=>exact ⟨0,lv,S,Q,by omega,rfl,y6.o,vM.start,aI.refl _ _,fun k hk=>.inl hk⟩
 case round=>
  clear y6;obtain ⟨i,y,S2,Q2,hi,rfl,hs,z6,ho,x9⟩:=hrel;have HS:=aA hs;have h5:=aA z6;have HO:=aA ho;have h4:=aA x9;have cv:=hs.rv.cell 0 rfl;have cl:=hs.rl.cell 0 rfl;have fl:=hs.rl.free 0;clear hs z6 ho x9
  by_cases z3:i<n
  ·have z7:(i:Int)<n:=by omega
   have a8:(0:Int)<=i:=by omega
   obtain ⟨b,o,rfl,hc⟩:=a0.o wr HO.o i z3;have x7:=HW.o i z3;obtain ⟨x,y2⟩:∃ z,z=gI l i:=⟨_,rfl⟩;have x4:=aA y2;rw [<-y2] at hc x7;clear y2
   by_cases x8:x=0
   ·have x1:=aA (h5.o.skip (.inl (by rw [<-x4.o];exact x8)));clear x4;subst x8;clear x7;go_wp2;exact ⟨⟨i+1,y,S2,Q2,by omega,by go_num,HS.o,x1.o,HO.o,h4.o⟩,by simp [intOf];omega⟩
   have b0:(x != 0)=true:=by simpa using x8
   have y3:1<=x/\x<=192:=by omega
   have h9:wfI x:=dI (by omega);have x3:=HS.o.st.look h9
   cases h6:S2 x with
   | true=>
    rw [h6] at x3;have x1:=aA (h5.o.skip (.inr (by rw [<-x4.o];exact h6)));clear x7 y3 h9 h6;go_wp2;exact ⟨⟨i+1,y,S2,Q2,by omega,by go_num,HS.o,x1.o,HO.o,h4.o⟩,by simp [intOf];omega⟩
   | false=>
    rw [h6] at x3;obtain ⟨z5,z1⟩:=h5.o.add (x:=x) x4.o.symm x8 y3 h6;have x1:=aA z5;have a2:=vG S2;obtain ⟨w2,a9,y0,z2⟩:=HS.o.st.store (by omega) h9;have y8:Hid (qQ w2 mb (aAG (fun j=>if j=x then true else S2 j)) (fun j=>if j=x then true else S2 j)):=by show qQ _ _ _ _;rw [z1];exact y0
    have h1:Hid (Only [mb] wr w2):=(Only.refl [mb] wr).grown z2 (fun k hk=>.inl (by cases hk;simp));have z4:=HS.o.ne;have z8:=aA z4;have a5:w2.cell? ⟨d,0,none⟩=some y:=h1.o.cell cl (by simp;omega);have y7:=aA (h1.o.row HS.o.rv (by simp;omega));have y9:=aA (h1.o.row HS.o.rl (by simp;omega));have y5:Hid (Qsl w2 B y Q2):=HS.o.qs.only h1.o (fun k hk=>by have:=(HS.o.qs.own k hk).1;simp;omega);have a4:=aA h5.o.num;have y4:=aA HS.o.bw;clear x7 y3 h9 h6 z5 z1 y0 z2 z4 a2 h5;go_wp2_with (at_builtin;refine aFs rfl _ _ rfl B _ Q2 rfl (y5.o.alloc (.cells #[.int .i64 x] 3)) w2.heap.size x rfl ?c1 ?c2 ?c3 ?c4)
    case c1=>exact (Row.new w2 _ [_]).cell 0 rfl
    case c2=>have:=a4.o;have:=HQ.o;have:=vG S2;omega
    case c3=>have:=h1.o.size;have:=y4.o;simp;omega
    case c4=>
     intro v' w3 x5 h8 z0;obtain ⟨va,vc,rfl⟩:=x5.len;generalize (Q2 ++ [x]).length=qn at*;obtain ⟨n1,n2,n3,n4,n5,n6⟩:=z8.o;have h2:∀ z,z<B->z∉y.ownBlock.toList:=fun z hz hm=>by
      cases e:y.ownBlock with
      | none=>rw [e] at hm;simp at hm
      | some g=>
       rw [e] at hm;simp at hm;have:=(HS.o.qs.own g e).1;omega
     have h3:=h8.row (y9.o.alloc (.cells #[.int .i64 x] 3)) (h2 d n5);have a6:=h3.cell 0 rfl;have a7:=h3.free 0;have x6:Only [d] w3 (w3.setCell ⟨d,0,none⟩ (Value.slice va qn vc)):=(Only.refl [d] w3).set (.inl (by simp)) _;have y1:wr.heap.size<=w3.heap.size:=Nat.le_trans h1.o.size (Nat.le_trans (by simp) h8.size);have a1:Hid (Seen (w3.setCell ⟨d,0,none⟩ (Value.slice va qn vc)) B vb d mb (Value.slice va qn vc) (fun j=>if j=x then true else S2 j) (Q2 ++ [x])):=
      ⟨(h8.row (y7.o.alloc _) (h2 vb n4)).other (Ne.symm n1) _,h3.set 0 _,x5.only x6 (fun k hk=>by have:=(x5.own k hk).1;simp;omega),
       ((y8.o.only ((Only.refl [] w2).alloc _) (by simp)).only h8 (h2 mb n6)).only x6 (by simp;omega),⟨n1,n2,n3,n4,n5,n6⟩,Nat.le_trans y4.o (Nat.le_trans y1 x6.size)⟩
     have hP:aI (fun k=>k=mb\/y.ownBlock=some k\/k=d) wr (w3.setCell ⟨d,0,none⟩ (Value.slice va qn vc)):=by
      have p1:aI (fun k=>k=mb\/y.ownBlock=some k\/k=d) wr (w2.alloc (.cells #[.int .i64 x] 3)):=(h1.o.toP (fun z hz=>.inl (.inl (by simpa using hz)))).alloc _;refine (p1.trans (h8.toP (S:=fun k=>y.ownBlock=some k) (fun z hz=>.inl (by
       cases e:y.ownBlock with
       | none=>rw [e] at hz;simp at hz
       | some g=>rw [e] at hz;simp at hz;rw [hz]))) (fun z hz=>.inl (.inr (.inl hz)))).set (.inl (.inr (.inr rfl))) _
     have z9:Hid (aI (fun k=>k=d\/k=mb\/lv.ownBlock=some k) w (w3.setCell ⟨d,0,none⟩ (Value.slice va qn vc))):=HO.o.trans hP (fun z hz=>by
      rcases hz with hz|hz|hz
      ·exact .inl (.inr (.inl hz))
      ·rcases h4.o z hz with h7|h7
       ·exact .inl (.inr (.inr h7))
       exact .inr h7
      exact .inl (.inl hz))
     have a3:Hid (∀ k,(Value.slice va qn vc).ownBlock=some k->lv.ownBlock=some k\/w.heap.size<=k):=fun k hk=>by
      rcases z0 k hk with h7|h7
      ·exact h4.o k h7
      right;have q1:=HO.o.size;have q2:=h1.o.size;have q3:w2.heap.size<=(w2.alloc (.cells #[.int .i64 x] 3)).heap.size:=by simp
      omega
     clear x5 h8 z0 h2 x6 hP h3 y1 HS HO h4 y7 y9 y5 y8;go_wp2;exact ⟨⟨i+1,(Value.slice va qn vc),_,_,by omega,by go_num,a1.o,x1.o,z9.o,a3.o⟩,by simp [intOf];omega⟩
  obtain rfl:i=n:=by omega
  have z7:¬ (i:Int)<(i:Int):=by omega
  go_wp2_with fail;go_end0;exact hR.o _ _ ⟨rfl,y,S2,Q2,HS.o,h5.o,HO.o,h4.o⟩
set_option maxHeartbeats 12800000
def aQX (M:Hp) (y:List Int) (z:List Bool) (i:Nat):Prop:=∀ j,j<i->gI y j≠0->(M.ob (gI y j)).isSome=true/\gB z (gI y j).toNat=true
theorem aQX.roots {M:Hp} {roots:List Int} {y:List Bool} (h:aQX M roots y roots.length):∀ x,x∈roots->x≠0->gB y x.toNat=true:=by
 intro x hx z;obtain ⟨i,d,rfl⟩:=dX.1 hx;exact (h i d z).2
section
variable {L:Nat->Option Gb} {hb:Nat} {M:Hp} {X:GX}
end
noncomputable def aAO (w:World) (B d y z:Nat):Nat:=Classical.epsilon (fun m=>∃ lv S Q,Seen w B d y z lv S Q/\m+aAG S=192+Q.length)
theorem aIe {S y:Int->Bool} (h:∀ k:Nat,k<192->S ((k:Int)+1)=y ((k:Int)+1)):aAG S=aAG y:=by
 unfold aAG;generalize 192=N at*;exact gG h
theorem Seen.only {w w':World} {B vb z e:Nat} {d:Value} {S:Int->Bool} {Q:List Int} (h:Seen w B vb z e d S Q) (y:Only [] w w'):Seen w' B vb z e d S Q:=
 ⟨y.row h.rv (by simp),y.row h.rl (by simp),h.qs.only y (by simp),h.st.only y (by simp),h.ne,Nat.le_trans h.bw y.size⟩
theorem Seen.put {w:World} {B vb y mb:Nat} {lv z:Value} {S:Int->Bool} {Q e:List Int} (h:Seen w B vb y mb lv S Q) (hq:Qsl w B z e):Seen (w.setCell ⟨y,0,none⟩ z) B vb y mb z S e:=by
 have d:Only [y] w (w.setCell ⟨y,0,none⟩ z):=(Only.refl [y] w).set (.inl (by simp)) _;have hn:=h.ne;exact ⟨h.rv.other (Ne.symm hn.1) _,h.rl.set 0 _,hq.only d (fun k hk=>by have:=(hq.own k hk).1;simp;omega),h.st.only d (by simp;omega),hn,Nat.le_trans h.bw d.size⟩
theorem Qsl.last {w:World} {base g y:Nat} {x:Int} {l:List Int} (h:Qsl w base (.slice (some ⟨g,y,none⟩) (l.length+1) 1) (x :: l)):Qsl w base (.slice (some ⟨g,y,none⟩) l.length 0) l:=by
 rcases h with ⟨_,z⟩|⟨g',d,cap,T,cs,z,e,h3,h4,h5,h6⟩
 ·cases z
 simp only [Value.slice.injEq,Option.some.injEq,Addr.mk.injEq] at z;obtain ⟨⟨rfl,rfl,_⟩,_,rfl⟩:=z;have h0:l.length+1<=1:=h4;exact .inr ⟨g,y,0,T,cs,rfl,e,h3,by omega,by omega,fun j hj=>by omega⟩
theorem Seen.same {w:World} {B vb lb mb:Nat} {lv d:Value} {S S2:Int->Bool} {Q Q2:List Int} (h:Seen w B vb lb mb lv S Q) (z:Seen w B vb lb mb d S2 Q2):aAG S=aAG S2/\Q.length=Q2.length:=by
 constructor
 ·refine aIe fun k hk=>?_;have hw:wfI ((k:Int)+1):=dI (by omega);have y:=h.st.look hw;have e2:=z.st.look hw;rw [y] at e2;exact Value.bool.inj (Result.ok.inj e2).1
 have e:=h.rl.inj z.rl;injection e with y _;obtain ⟨a,c,h3⟩:=h.qs.len;obtain ⟨a2,c2,h4⟩:=z.qs.len;rw [h3,h4] at y;injection y
theorem yG {w:World} {B e z d:Nat} {y:Value} {S:Int->Bool} {Q:List Int} (h:Seen w B e z d y S Q):aAO w B e z d+aAG S=192+Q.length:=by
 have h0:∃ m,∃ y S Q,Seen w B e z d y S Q/\m+aAG S=192+Q.length:=⟨192+Q.length - aAG S,y,S,Q,h,by have:=vG S;omega⟩;obtain ⟨h1,S2,Q2,h2,he⟩:=Classical.epsilon_spec h0;obtain ⟨e1,e2⟩:=h.same h2;rw [e1,e2];exact he
structure RInv (M:Hp) (roots:List Int) (S:Int->Bool) (Q:List Int):Prop where
 sound:∀ x,S x=true->M.Rch roots x
 rts:∀ x,x∈roots->x≠0->S x=true
 cls:∀ x,S x=true->x∈Q\/∀ y,y∈(M.refs x).1->S y=true
 inS:∀ x,x∈Q->S x=true
 len:Q.length<=aAG S
theorem RInv.start {M:Hp} {y:List Int} {S2:Int->Bool} {Q2:List Int} (h:vM (fun _=>false) [] S2 Q2 y y.length):RInv M y S2 Q2:=by
 refine ⟨fun x hx=>?_,fun x hx d=>?_,fun x hx=>.inl ((h.mem x).2 (.inr ⟨rfl,hx⟩)),fun x hx=>?_,?_⟩
 ·rcases (h.sub x).1 hx with z|⟨z,j,h2,e⟩
  ·cases z
  exact .root (dX.2 ⟨j,h2,e⟩) z
 ·obtain ⟨j,hj,e⟩:=dX.1 hx;exact (h.sub x).2 (.inr ⟨d,j,hj,e⟩)
 ·rcases (h.mem x).1 hx with z|⟨_,z⟩
  ·cases z
  exact z
 have z:=h.num;have d:aAG (fun _=>false)=0:=kW (fun _ _=>rfl);rw [d] at z;simp at z;omega
theorem RInv.step {M:Hp} (hk:M.Ok) {h4:List Int} {S S2:Int->Bool} {Q Q2:List Int} {x:Int} (h:RInv M h4 S (x :: Q)) {o:Th} (ho:M.ob x=some o) (hv:vM S Q S2 Q2 o.fJ o.fJ.length):RInv M h4 S2 Q2:=by
 have d:∀ y,S y=true->S2 y=true:=fun y hy=>(hv.sub y).2 (.inl hy);have h5:(M.refs x).1=o.fJ:=by unfold Hp.refs;rw [ho]
 refine ⟨fun y hy=>?_,fun y hy h0=>d y (h.rts y hy h0),fun y hy=>?_,fun y hy=>?_,?_⟩
 ·rcases (hv.sub y).1 hy with e|⟨e,j,h2,h3⟩
  ·exact h.sound y e
  exact .step (h.sound x (h.inS x (by simp))) ho (dX.2 ⟨j,h2,h3⟩)
 ·cases hs:S y with
  | false=>exact .inl ((hv.mem y).2 (.inr ⟨hs,hy⟩))
  | true=>
   rcases h.cls y hs with e|e
   ·rcases List.mem_cons.1 e with h2|h2
    ·right;intro z hz;rw [h2,h5] at hz;obtain ⟨j,hj,h3⟩:=dX.1 hz;have:=hk.aJw ho hz;exact (hv.sub z).2 (.inr ⟨by omega,j,hj,h3⟩)
    exact .inl ((hv.mem y).2 (.inl h2))
   exact .inr (fun z hz=>d z (e z hz))
 ·rcases (hv.mem y).1 hy with e|⟨_,e⟩
  ·exact d y (h.inS y (List.mem_cons_of_mem _ e))
  exact e
 have e:=hv.num;have h2:=h.len;simp only [List.length_cons] at h2;omega
theorem RInv.done {M:Hp} (hk:M.Ok) {y:List Int} (hb:¬ M.bZ y) {S:Int->Bool} (h:RInv M y S []) (x:Int):S x=true↔x∈M.jZ y:=by
 rw [hk.aDj hb];constructor
 ·exact h.sound x
 intro hr
 induction hr with
 | root e z=>exact h.rts _ e z
 | step e z h3 ih=>
  rcases h.cls _ ih with d|d
  ·cases d
  refine d _ ?_;unfold Hp.refs;rw [z];exact h3
section
variable {L:Nat->Option Lb} {hb:Nat} {M:Hp} {X:HX}
theorem aHz (w:World) (h:dO w L hb M X) (hk:M.Ok) (ra:Option Addr) (rn rc:Nat) (y:List Int) (x6:y.length=rn) (hr:mY w (.slice ra rn rc) y) (e1:rn<=1000) (d4:∀ x,x∈y->wfI x) :
  Calls prog 60 #[.pointer (some ⟨hb,0,none⟩),.slice ra rn rc] w (aLz w (M.reach y)):=by
 refine aF fun R hR=>?_;have e6:∀ (fn:Fn) (first cap:Array Value) (w:World),(Instr.makeFunc fn first cap).run prog w=.ok (.func fn first cap) w:=fun _ _ _ _=>rfl;have e0:∀ wx:World,(Instr.makeMap 114 none).run prog wx=.ok (.map (some wx.heap.size)) (wx.alloc (.map #[] 0)):=fun _=>by kernel_rfl
 have h1:=iK w h;have HK:=aA hk;have h3:=aA x6;have HP:=aA h;have HR:=aA hr;have d7:=aA d4;clear h hk hr x6 d4;go_in;go_wp2_with fail;go_fit h1;rintro e _ ⟨rfl,rfl⟩;clear h1;go_wp2_with fail;have a1:Hid (Seen (((w.alloc (.map #[] 0)).alloc (.cells #[.map (some w.heap.size)] 114)).alloc (.cells #[.slice none 0 0] 23)) (w.heap.size+3) (w.heap.size+1) (w.heap.size+1+1) w.heap.size (.slice none 0 0) (fun _=>false) []):=by
  refine ⟨?_,?_,Qsl.nil _ _,?_,⟨by omega,by omega,by omega,by omega,by omega,by omega⟩,by simp⟩
  ·have:=Row.new (w.alloc (.map #[] 0)) 114 [.map (some w.heap.size)];rw [World.size_alloc] at this;exact this.alloc _
  ·have:=Row.new ((w.alloc (.map #[] 0)).alloc (.cells #[.map (some w.heap.size)] 114)) 23 [.slice none 0 0];rw [World.size_alloc,World.size_alloc] at this;exact this
  have h0:aAG (fun _=>false)=0:=kW (fun _ _=>rfl);rw [h0];exact ((qQ.made w).only ((Only.refl [] _).alloc _) (by simp)).only ((Only.refl [] _).alloc _) (by simp)
 have x1:Hid (Only [] w (((w.alloc (.map #[] 0)).alloc (.cells #[.map (some w.heap.size)] 114)).alloc (.cells #[.slice none 0 0] 23))):=(((Only.refl [] w).alloc _).alloc _).alloc _;generalize ((w.alloc (.map #[] 0)).alloc (.cells #[.map (some w.heap.size)] 114)).alloc (.cells #[.slice none 0 0] 23)=w1 at*;obtain ⟨mb,a9⟩:∃ z,z=w.heap.size:=⟨_,rfl⟩;obtain ⟨B,hB⟩:∃ z,z=w.heap.size+3:=⟨_,rfl⟩;obtain ⟨vb,b1⟩:∃ z,z=w.heap.size+1:=⟨_,rfl⟩;obtain ⟨lb,a7⟩:∃ z,z=w.heap.size+1+1:=⟨_,rfl⟩;have y4:Hid (w.heap.size<=mb/\w.heap.size<=B/\w.heap.size<=vb/\w.heap.size<=lb):=⟨by omega,by omega,by omega,by omega⟩;rw [<-a7,<-b1,<-hB,<-a9] at a1;rw [<-a7,<-b1,<-a9];clear e0 a7 b1 hB a9;go_loopw [18] (fun iv wr=>∃ i:Nat,i<=rn/\iv=.int .i64 i/\wr=w1/\∀ j,j<i->gI y j=0\/(M.ob (gI y j)).isSome=true) (fun iv _=>rn - (intOf iv).toNat)
 case atStart=>exact ⟨0,by omega,rfl,rfl,fun j hj=>by omega⟩
 case round=>
  obtain ⟨i,hi,rfl,rfl,d1⟩:=hrel;have y9:=aA d1;clear d1
  by_cases a8:i<rn
  ·have d6:(i:Int)<rn:=by omega
   have e5:(0:Int)<=i:=by omega
   obtain ⟨b,o,rfl,hc⟩:∃ b o,ra=some ⟨b,o,none⟩/\wr.cell? ⟨b,o+i,none⟩=some (.int .i64 (gI y i)):=by
    have x6:=h3.o;rcases HR.o with ⟨b,o,c,e,hc⟩|⟨oa,c,e,h0⟩
    ·cases e;exact ⟨b,o,rfl,x1.o.aS (hc i (by omega))⟩
    rw [h0] at x6;simp at x6;omega
   have h5:=d7.o (gI y i) (dX.2 ⟨i,by rw [h3.o];exact a8,rfl⟩);obtain ⟨x,b2⟩:∃ z,z=gI y i:=⟨_,rfl⟩;have z5:=aA b2;rw [<-b2] at hc h5;clear b2;have cm:=(HP.o.aK x1.o).cells.2.1
   by_cases z6:x=0
   ·have HN:Hid (∀ j,j<i+1->gI y j=0\/(M.ob (gI y j)).isSome=true):=fun j hj=>by
     by_cases e:j=i
     ·rw [e,<-z5.o];exact .inl z6
     exact y9.o j (by omega)
    clear z5;subst z6;go_wp2;exact ⟨⟨i+1,by omega,by go_num,trivial,HN.o⟩,by simp [intOf];omega⟩
   have e7:(x != 0)=true:=by simpa using z6
   cases d:M.ob x with
   | none=>
    have hl:=(HP.o.aK x1.o).rX h5 d;have z7:Hid (M.bZ y):=⟨x,dX.2 ⟨i,by rw [h3.o];exact a8,z5.o.symm⟩,z6,d⟩;clear h5 d;go_wp2;refine hR.o _ _ ⟨.slice none 0 0,?_,?_,x1.o⟩
    ·unfold Hp.reach;rw [if_pos z7.o];rfl
    unfold Hp.reach;rw [if_pos z7.o];exact aN.nil _ _
   | some o2=>
    have hl:=(HP.o.aK x1.o).lK h5 d;have HN:Hid (∀ j,j<i+1->gI y j=0\/(M.ob (gI y j)).isSome=true):=fun j hj=>by
     by_cases e:j=i
     ·rw [e,<-z5.o,d];exact .inr rfl
     exact y9.o j (by omega)
    clear h5 d;go_wp2;exact ⟨⟨i+1,by omega,by go_num,trivial,HN.o⟩,by simp [intOf];omega⟩
  obtain rfl:i=rn:=by omega
  have d6:¬ (i:Int)<(i:Int):=by omega
  have y6:Hid (¬ M.bZ y):=by
   rintro ⟨x,hx,h0,hn⟩;obtain ⟨j,hj,rfl⟩:=dX.1 hx;rcases y9.o j (by rw [<-h3.o];exact hj) with h7|h7
   ·exact h0 h7
   rw [hn] at h7;simp at h7
  have b7:Hid (∀ j,j<i->gI y j=0\/(1<=gI y j/\gI y j<=192)):=fun j hj=>by
   rcases y9.o j hj with h7|h7
   ·exact .inl h7
   obtain ⟨o,ho⟩:=Option.isSome_iff_exists.1 h7;exact .inr (HK.o.hr _ o ho)
  have x4:=xG a1.o ra i rc y h3.o (HR.o.only x1.o (by simp)) (fun h0 k hk=>by
   have h7:=HR.o.lt (by rw [h3.o];exact h0) hk;have h8:=y4.o;refine ⟨by omega,by omega,by simp [Value.ownBlock]⟩) e1 b7.o (by simp)
  clear a8;go_wp2_with fail;go_fit x4;rintro e w2 ⟨rfl,d5,S2,Q2,d2,h4,d0,c1⟩;have c0:=aA d2;have b8:Hid (RInv M y S2 Q2):=RInv.start (by rw [h3.o];exact h4);have b9:Hid (Only [] w w2):=by
   have p:aI (fun _=>False) w w2:=(x1.o.vU).trans d0 (fun z hz=>.inr (by
    have h8:=y4.o;rcases hz with hz|hz|hz
    ·omega
    ·omega
    cases hz))
   exact ⟨p.os,p.tape,p.output,p.size,fun k hk _=>p.block k hk id⟩
  have b5:Hid (∀ k,d5.ownBlock=some k->w.heap.size<=k):=fun k hk=>by
   rcases c1 k hk with h7|h7
   ·cases h7
   exact Nat.le_trans x1.o.size h7
  clear d2 h4 d0 c1 x4 a1 x1 b7 y9;go_wp2;go_loopw [] (fun wr=>∃ lv S Q,Seen wr B vb lb mb lv S Q/\RInv M y S Q/\Only [] w wr/\∀ k,lv.ownBlock=some k->w.heap.size<=k) (fun wr=>aAO wr B vb lb mb)
  case atStart=>exact ⟨d5,S2,Q2,c0.o,b8.o,b9.o,b5.o⟩
  case round=>
   clear c0 b8 b9 b5;obtain ⟨lv,S,Q,hs,x9,ho,hb⟩:=hrel;have HS:=aA hs;have HI:=aA x9;have HO:=aA ho;have HB:=aA hb;have HM:=aA (yG hs)
   cases Q with
   | nil=>
    obtain ⟨a2,c2,rfl⟩:=hs.qs.len;have cl:=hs.rl.cell 0 rfl;have cv:=hs.rv.cell 0 rfl;have z3:=aEV wr (some mb);have z4:=aBB hs.st (by have:=vG S;omega) (Hp.aBJ M y) (fun x hx=>by
     have:=((HK.o.aDj y6.o).1 hx).some HK.o y6.o;exact dI (by omega)) (fun x _=>x9.done HK.o y6.o x)
    have b6:Hid (M.reach y=(M.jZ y,0)):=by show _=_;unfold Hp.reach;rw [if_neg y6.o]
    clear hs x9 ho hb HM;go_wp2_with fail;go_fit z3;rintro e _ ⟨rfl,rfl⟩;go_wp2_with fail;go_fit z4;rintro e w5 ⟨v,rfl,c5,x5⟩;have y5:Hid (aN w5 w.heap.size v (M.jZ y)):=c5.base HO.o.size;have y8:Hid (Only [] w w5):=HO.o.trans x5 (by simp);clear z3 z4 c5 x5;go_wp2;refine hR.o _ _ ⟨v,?_,?_,y8.o⟩
    ·rw [b6.o];rfl
    rw [b6.o];exact y5.o
   | cons x Q=>
    obtain ⟨g,h6,cap,rfl,hc,z8,hq⟩:=hs.qs.head;have cl:=hs.rl.cell 0 rfl;have cv:=hs.rv.cell 0 rfl;have fl:=hs.rl.free 0;obtain ⟨o,d⟩:=Option.isSome_iff_exists.1 ((x9.sound x (x9.inS x (by simp))).some HK.o y6.o).1;have c6:(0:Int)<((Q.length+1:Nat):Int):=by omega
    have c7:0<Q.length+1:=by omega
    have c8:(1:Int)<=((Q.length+1:Nat):Int):=by omega
    have c9:((Q.length+1:Nat):Int)<=cap:=by omega
    have h5:wfI x:=dI (by have:=HK.o.hr x o d;omega);have d3:=HS.o.bw;have y2:=aA d;have c3:=y4.o
    by_cases c4:cap=1
    ·subst c4;obtain rfl:Q=[]:=List.eq_nil_of_length_eq_zero (by omega);simp only [List.length_nil,Nat.zero_add] at cl;clear c6 c7 c8 c9 z8;have y3:Qsl wr B (.slice (some ⟨g,h6,none⟩) 0 0) []:=hs.qs.last;have z0:Hid (Seen (wr.setCell ⟨lb,0,none⟩ (.slice (some ⟨g,h6,none⟩) 0 0)) B vb lb mb (.slice (some ⟨g,h6,none⟩) 0 0) S []):=HS.o.put y3;have x2:Hid (Only [] w (wr.setCell ⟨lb,0,none⟩ (.slice (some ⟨g,h6,none⟩) 0 0))):=HO.o.set (.inr (by simp;omega)) _;have x8:Hid (w.heap.size<=g/\g<wr.heap.size):=⟨HB.o g rfl,(HS.o.qs.own g rfl).2⟩;have a5:Hid (wr.heap.size<=(wr.setCell ⟨lb,0,none⟩ (.slice (some ⟨g,h6,none⟩) 0 0)).heap.size):=by show _<=_;simp
     have cm:=(HP.o.aK x2.o).cells.2.1;have a6:=(HP.o.aK HO.o).cells.2.1;have hl:=(HP.o.aK x2.o).lK h5 d;have x7:=rG _ (HP.o.aK x2.o) HK.o d;clear hs x9 ho hb hq y3 h5 d d3 c3;go_wp2_with fail;go_fit x7;rintro e w4 ⟨rv,rfl,x3,y0⟩;have a3:=aA (z0.o.only y0);have y7:Hid (Only [] w w4):=x2.o.trans y0 (by simp);obtain ⟨b3,b4,rfl⟩:=x3.len;have x4:=xG a3.o b3 o.fJ.length b4 o.fJ rfl x3.read (fun _ k hk=>by
      have h7:=(x3.own k hk).1;have h8:=a5.o;have h9:=x8.o;have d8:=z0.o.ne;have d9:=HS.o.bw;refine ⟨by omega,by omega,?_⟩;intro e;have e2:g=k:=by simpa [Value.ownBlock] using e
      omega) (by have:=Th.jY o o.slots.length;have:=(HK.o.th x o y2.o).le;show (o.fE o.slots.length).length<=1000;omega) (fun j hj=>.inr (HK.o.aJw y2.o (dX.2 ⟨j,hj,rfl⟩)).2) (by have h1:=HI.o.len;have h2:=vG S;rw [List.length_cons] at h1;omega)
     clear x7 x3 y0 cm a6 hl cl cv fl;go_wp2_with fail;go_fit x4;rintro e w5 ⟨rfl,z2,S5,Q5,y1,h4,x5,z1⟩;have a4:=aA y1;have y5:Hid (RInv M y S5 Q5):=HI.o.step HK.o y2.o h4;have y8:Hid (Only [] w w5):=by
      have p:aI (fun _=>False) w w5:=(y7.o.vU).trans x5 (fun z hz=>.inr (by
       have h8:=y4.o;have h9:=x8.o;rcases hz with hz|hz|hz
       ·omega
       ·omega
       have e2:g=z:=by simpa [Value.ownBlock] using hz
       omega))
      exact ⟨p.os,p.tape,p.output,p.size,fun k hk _=>p.block k hk id⟩
     have z9:Hid (∀ k,z2.ownBlock=some k->w.heap.size<=k):=fun k hk=>by
      rcases z1 k hk with h7|h7
      ·have e2:g=k:=by simpa [Value.ownBlock] using h7
       have:=x8.o.1;omega
      exact Nat.le_trans y7.o.size h7
     have a0:Hid (aAO w5 B vb lb mb<aAO wr B vb lb mb):=by
      have q1:=yG y1;have q2:=HM.o;have q3:=h4.num;simp only [List.length_cons] at q2;show _<_;omega
     clear y1 h4 x5 z1 x4;go_wp2;exact ⟨⟨z2,S5,Q5,a4.o,y5.o,y8.o,z9.o⟩,a0.o⟩
    have e4:1<cap:=by omega
    obtain ⟨qn,b0⟩:∃ z,z=Q.length:=⟨_,rfl⟩;have y3:Qsl wr B (.slice (some ⟨g,h6+1,none⟩) Q.length (cap - 1)) Q:=hq;rw [<-b0] at c6 c7 c8 c9 cl z8 y3;have e3:=aA b0;have z0:Hid (Seen (wr.setCell ⟨lb,0,none⟩ (.slice (some ⟨g,h6+1,none⟩) qn (cap - 1))) B vb lb mb (.slice (some ⟨g,h6+1,none⟩) qn (cap - 1)) S Q):=HS.o.put y3;have x2:Hid (Only [] w (wr.setCell ⟨lb,0,none⟩ (.slice (some ⟨g,h6+1,none⟩) qn (cap - 1)))):=HO.o.set (.inr (by simp;omega)) _;have x8:Hid (w.heap.size<=g/\g<wr.heap.size):=⟨HB.o g rfl,(HS.o.qs.own g rfl).2⟩;have a5:Hid (wr.heap.size<=(wr.setCell ⟨lb,0,none⟩ (.slice (some ⟨g,h6+1,none⟩) qn (cap - 1))).heap.size):=by show _<=_;simp
    have cm:=(HP.o.aK x2.o).cells.2.1;have a6:=(HP.o.aK HO.o).cells.2.1;have hl:=(HP.o.aK x2.o).lK h5 d;have x7:=rG _ (HP.o.aK x2.o) HK.o d;clear hs x9 ho hb b0 hq y3 h5 d d3 c3 c4;go_wp2_with fail;go_fit x7;rintro e w4 ⟨rv,rfl,x3,y0⟩;have a3:=aA (z0.o.only y0);have y7:Hid (Only [] w w4):=x2.o.trans y0 (by simp);obtain ⟨b3,b4,rfl⟩:=x3.len;have x4:=xG a3.o b3 o.fJ.length b4 o.fJ rfl x3.read (fun _ k hk=>by
     have h7:=(x3.own k hk).1;have h8:=a5.o;have h9:=x8.o;have d8:=z0.o.ne;have d9:=HS.o.bw;refine ⟨by omega,by omega,?_⟩;intro e;have e2:g=k:=by simpa [Value.ownBlock] using e
     omega) (by have:=Th.jY o o.slots.length;have:=(HK.o.th x o y2.o).le;show (o.fE o.slots.length).length<=1000;omega) (fun j hj=>.inr (HK.o.aJw y2.o (dX.2 ⟨j,hj,rfl⟩)).2) (by have h1:=HI.o.len;have h2:=vG S;rw [List.length_cons] at h1;omega)
    clear x7 x3 y0 cm a6 hl cl cv fl;go_wp2_with fail;go_fit x4;rintro e w5 ⟨rfl,z2,S5,Q5,y1,h4,x5,z1⟩;have a4:=aA y1;have y5:Hid (RInv M y S5 Q5):=HI.o.step HK.o y2.o h4;have y8:Hid (Only [] w w5):=by
     have p:aI (fun _=>False) w w5:=(y7.o.vU).trans x5 (fun z hz=>.inr (by
      have h8:=y4.o;have h9:=x8.o;rcases hz with hz|hz|hz
      ·omega
      ·omega
      have e2:g=z:=by simpa [Value.ownBlock] using hz
      omega))
     exact ⟨p.os,p.tape,p.output,p.size,fun k hk _=>p.block k hk id⟩
    have z9:Hid (∀ k,z2.ownBlock=some k->w.heap.size<=k):=fun k hk=>by
     rcases z1 k hk with h7|h7
     ·have e2:g=k:=by simpa [Value.ownBlock] using h7
      have:=x8.o.1;omega
     exact Nat.le_trans y7.o.size h7
    have a0:Hid (aAO w5 B vb lb mb<aAO wr B vb lb mb):=by
     have q1:=yG y1;have q2:=HM.o;have q3:=h4.num;simp only [List.length_cons] at q2;show _<_;omega
    clear y1 h4 x5 z1 x4;go_wp2;exact ⟨⟨z2,S5,Q5,a4.o,y5.o,y8.o,z9.o⟩,a0.o⟩
end
theorem aPl {f:Nat->Nat->Int} {k:Nat} (h:aIf f k=0) (y:f k 0≠8):aIf f (k+1)=0:=by
 show aIf f k+(if f k 0=8 then 1 else 0)=0;rw [h,if_neg y]
theorem Std.none {n:Nat} {y:Int} {c:Co} {k:Nat} (h:Std n y k c) (z:k=0):c.t.ents=[]:=by
 have:=h.el;rw [z] at this;exact List.length_eq_zero_iff.1 (Nat.le_zero.1 this)
theorem aMn {n:Nat} {y:Int} {c:Co} (h:Std n y 0 c) (hp:c.ph=0) (bs:Int):∃ (d e:Co) (z f2:Int),c.begin (wH c.m.M (dJ bs))=(0,d)/\d.finish=(z,f2,0,e)/\e.m.M.handles=c.m.M.jZ (wH c.m.M (dJ bs))/\e.ph=0/\e.cr=0/\e.m.M.P.moves=0/\d.Okc/\e.Okc:=by
 have hl:=aKI (M:=c.m.M) (c:=bs);obtain ⟨h1,h2,h3,h4,h5,h6⟩:=aAF h.ok h.pn (h.none rfl) hp (l:=wH c.m.M (dJ bs)) (by omega) (aBi _ _);have h7:=h.ok.begin (wH c.m.M (dJ bs));have h8:=h7.finish.1;generalize c.begin (wH c.m.M (dJ bs))=r at*;obtain ⟨r1,d⟩:=r;simp only at h1 h2 h3 h4 h5 h6 h7 h8;generalize hq:d.finish=q at*;obtain ⟨z,f2,f3,e⟩:=q;simp only at h2 h3 h4 h5 h6 h8;subst h1 h2;exact ⟨d,e,z,f2,rfl,hq,h3,h4,h5,h6,h7.k,h8.k⟩
theorem walk_CycleProgress (d h4:Int) (la:Option Addr) (ln lc:Nat) (f:Nat->Nat->Int) (bs:Int) (w:World) (wp:wfI d) (wr:wfI h4) (hd:Recs 4 w la ln f) (wb:wfI bs) :
  Calls prog 11 #[.int .i64 d,.int .i64 h4,.slice la ln lc,.int .i64 bs] w fun e w'=>e=.returned (.bool true)/\Below w.heap.size w w':=by
 refine aF fun R hR=>?_
 by_cases h6:d<1\/24<d\/h4<0\/100<h4
 ·have c1:=aDU d h4 la ln lc w h6;clear hd wp wr h6 wb;go_in;go_wp2_with fail;go_fit c1;rintro e w1 ⟨rfl,b8⟩;have cs:=aAe w1;have x5:=aA b8;clear c1 b8;go_wp2_with fail;go_fit cs;rintro e w5 ⟨rfl,ho⟩;have HE:=aA (aPs x5.o ho);clear cs ho;go_wp2;exact hR.o _ _ ⟨rfl,HE.o⟩
 obtain ⟨⟨p1,f4⟩,r0,a2⟩:=aPt.1 h6;obtain ⟨pn,rfl⟩:∃ n:Nat,d=(n:Int):=⟨d.toNat,by omega⟩;have c1:=aCg pn h4 la ln lc f w (by omega) (by omega) ⟨r0,a2⟩ hd;have HD:=aA hd;clear hd wp wr h6 wb p1 f4 r0 a2;obtain ⟨e8,y7⟩:∃ e,e=aIf f (min ln 60):=⟨_,rfl⟩;rw [<-y7] at c1;have z2:=aA y7;clear y7;go_in;go_wp2_with fail;go_fit c1;rintro e w1 ⟨b,g,c,rfl,a5,d4,c9⟩;have z3:=aA a5;have a1:=aA d4;have z9:=aA c9;clear c1 a5 d4 c9;go_wp2;go_loopw [11] (fun iv wr=>∃ x:Nat,x<=ln/\x<=60/\iv=.int .i64 x/\Only [] w1 wr/\aIf f x=0) (fun iv _=>ln - (intOf iv).toNat)
 case atStart=>exact ⟨0,by omega,by omega,rfl,Only.refl _ _,rfl⟩
 case round=>as_aux_lemma=>
  obtain ⟨x,hx,f6,rfl,ho,h8⟩:=hrel;have HF:Hid (Fam w wr (P2 b g c c [])):=z3.o.aK ho;have HO:=aA ho;have H8:=aA h8;clear ho h8 z3
  by_cases h7:x<ln/\x<60
  ·obtain ⟨h7,g1⟩:=h7;have d6:(x:Int)<ln:=by omega
   have g2:(0:Int)<=x:=by omega
   have f5:(x:Int)<60:=by omega
   rcases HD.o.2 with h0|⟨bb,oo,rfl,hc⟩
   ·omega
   have c0:=HF.o.cell (hc x (by omega) 0 (by omega)).1;rw [Nat.add_zero] at c0
   by_cases h8:f x 0=8
   ·rw [h8] at c0;have cs:=aAe wr;have x5:Hid (Only [] w wr):=HF.o.1;clear hc h8 HF HO H8;go_wp2_with fail;go_fit cs;rintro e w5 ⟨rfl,ho⟩;have HE:=aA (aPs x5.o ho);clear cs ho;go_wp2;exact hR.o _ _ ⟨rfl,HE.o⟩
   have e1:=aA (aPl H8.o h8);generalize f x 0=d0 at*;clear hc HF;go_wp2;exact ⟨⟨x+1,by omega,by omega,by go_num,HO.o,e1.o⟩,by simp [intOf];omega⟩
  have x9:Hid (Std pn h4 0 c):=by
   have e:min ln 60=x:=by omega
   have h2:=z2.o;rw [e,H8.o] at h2;rw [<-h2];exact a1.o
  have hl:((x:Int)<ln/\¬ (x:Int)<60)\/(¬ (x:Int)<ln/\True):=by
   by_cases e:x<ln
   ·exact .inl ⟨by omega,by omega⟩
   exact .inr ⟨by omega,trivial⟩
  have h1:=aAj (i:=0) wr HF.o rfl;clear HD z2 a1 h7 H8 HO HF;rcases hl with ⟨b5,b6⟩|⟨b5,b6⟩
  all_goals
   go_wp2_with fail;go_fit h1;rintro e w2 ⟨q0,rfl,y1,a6⟩;have z4:Hid (Fam w w2 (P2 b g c c [PH q0 c.m.M])):=a6;have cr:=yD w2 bs;clear h1 y1 a6;go_wp2_with fail;go_fit cr;rintro e w3 ⟨v,rfl,y0,b9⟩;obtain ⟨va,vc,hv⟩:=y0.len;have y6:Hid ((dJ bs).length<=40):=nT bs 40;have y5:=aA (aMn x9.o z9.o bs);have x6:Hid (∀ z∈wH c.m.M (dJ bs),wfI z):=fun z hz=>aIH (x9.o.ok.k.hf.ok.inR (zU hz));obtain ⟨L,hL⟩:∃ L,L=dJ bs:=⟨_,rfl⟩;rw [<-hL] at y0 hv y6 y5 x6;obtain ⟨n,hn⟩:∃ n,n=L.length:=⟨_,rfl⟩;rw [<-hn] at hv;have HN:=aA hn;have x1:Hid (n<=40):=by rw [hn];exact y6.o
   subst hv;have x7:Hid (Fam w w3 (P2 b g c c [PH q0 c.m.M,bT (.slice va n vc) L])):=z4.o.gY b9 y0;clear cr y0 b9 hL hn z4 y6 b5 b6;go_wp2;go_loopw [13,15] (fun fv iv wr=>∃ k:Nat,k<=n/\iv=.int .i64 k/\aN wr w3.heap.size fv (mM c.m.M L k)/\Only [] w3 wr) (fun _ iv _=>n - (intOf iv).toNat)
   case atStart=>exact ⟨0,by omega,rfl,aN.nil _ _,Only.refl _ _⟩
   case round=>as_aux_lemma=>
    obtain ⟨k,hk,rfl,hi,ho⟩:=hrel;have HI:=aA hi;have HO:=aA ho;obtain ⟨fa,fc,b0⟩:=hi.len;obtain ⟨m,hm⟩:∃ m,m=(mM c.m.M L k).length:=⟨_,rfl⟩;rw [<-hm] at b0;have HM:=aA hm;have e9:m<=k:=by rw [hm];exact zV _ _ _
    subst b0;clear hi ho hm
    by_cases h7:k<n
    ·have HF:Hid (Fam w wr (P2 b g c c [PH q0 c.m.M,bT (.slice va n vc) L])):=x7.o.aK HO.o;have f9:(0:Int)<=k:=by omega
     have d6:(k:Int)<n:=by omega
     have f8:(k:Int)<=40:=by have:=x1.o;omega
     have b4:k<L.length:=by rw [<-HN.o];exact h7
     obtain ⟨b1,o1,rfl,c1⟩:=(HF.o.ints 3 rfl).read.at b4;obtain ⟨q,g0,_⟩:=GoA.lives (i:=1) HF.o rfl;obtain ⟨y,hy⟩:∃ y,y=gI L k:=⟨_,rfl⟩;rw [<-hy] at c1;have HY:=aA hy;have HS:Hid (∀ wx,Only [] wr wx->wx.cell? ⟨g,0,none⟩=some (.pointer (some ⟨q,0,none⟩))/\wx.cell? ⟨b1,o1+k,none⟩=some (.int .i64 y)):=fun wx hx=>⟨hx.cell0 g0,hx.cell0 c1⟩;have HL:Hid (∀ wx,Only [] wr wx->Calls prog 58 #[.pointer (some ⟨q,0,none⟩),.int .i64 y] wx (fun e w'=>e=.returned (.bool (c.m.M.ob y).isSome)/\Only [] wx w')):=fun wx hx=>GoA.aQp (i:=1) (HF.o.aK hx) rfl (HS.o _ hx).1 y;have e0:Hid (m=(mM c.m.M L k).length/\m<=40):=⟨HM.o,by have:=x1.o;omega⟩;clear b4 hy HM x1 HN x7
     cases h9:(c.m.M.ob y).isSome with
     | true=>
      have x3:Hid (mM c.m.M L (k+1)=mM c.m.M L k ++ [y]):=by show mM c.m.M L k ++ (if _ then _ else _)=_;rw [<-HY.o,if_pos h9]
      rw [h9] at HL;clear h9 HY HF;go_upto_region 17 with fail;go_region_held3 (fun w'=>w'.cell? ⟨g,0,none⟩=some (.pointer (some ⟨q,0,none⟩))/\w'.cell? ⟨b1,o1+k,none⟩=some (.int .i64 y))
       (first|(exact HS.o _ (Only.refl _ _))|(exact HS.o _ (Only.refl _ _).drew)|(exact HS.o _ h3)|(exact HS.o _ ((Only.refl _ _).drew.trans h3 (by simp))))
       (first|(go_at_call 58;refine (HL.o _ (Only.refl _ _).drew).mono ?_;rintro e w4 ⟨rfl,h3⟩))
      have h5:Hid (Only [] wr w4):=(Only.refl _ _).drew.trans h3 (by simp);obtain ⟨_,c4⟩:=HS.o _ h5.o;have y3:Hid (aN w4 w3.heap.size (.slice fa m fc) (mM c.m.M L k)):=HI.o.only h5.o (by simp);have x4:Hid (Only [] w3 w4):=HO.o.trans h5.o (by simp);clear h3 HL HS h5 HI HO c1 g0;go_wp2_with (at_builtin;refine bH rfl _ _ rfl w3.heap.size _ _ rfl (y3.o.alloc _) w4.heap.size y rfl ?c1 ?c2 ?c3 ?c4)
      case c1=>exact (Row.new w4 _ [_]).cell 0 rfl
      case c2=>have:=e0.o;omega
      case c3=>have:=x4.o.size;simp;omega
      case c4=>
       intro v' w5 b3 y1 e5;have e2:Hid (Only [] w3 w5):=(x4.o.alloc _).trans y1 (fun z hz=>.inr (y3.o.own z (jM hz)).1);have y4:Hid (aN w5 w3.heap.size v' (mM c.m.M L (k+1))):=by
        show aN _ _ _ _;rw [x3.o];exact b3
       clear b3 y1 e5 x3 y3 x4 c4;go_wp2;exact ⟨⟨k+1,by omega,by go_num,y4.o,e2.o⟩,by simp [intOf];omega⟩
     | false=>
      have x3:Hid (mM c.m.M L (k+1)=mM c.m.M L k):=by show mM c.m.M L k ++ (if _ then _ else _)=_;rw [<-HY.o,if_neg (by rw [h9];decide),List.append_nil]
      rw [h9] at HL;clear h9 HY HF;go_upto_region 17 with fail;go_region_held3 (fun w'=>w'.cell? ⟨g,0,none⟩=some (.pointer (some ⟨q,0,none⟩))/\w'.cell? ⟨b1,o1+k,none⟩=some (.int .i64 y))
       (first|(exact HS.o _ (Only.refl _ _))|(exact HS.o _ (Only.refl _ _).drew)|(exact HS.o _ h3)|(exact HS.o _ ((Only.refl _ _).drew.trans h3 (by simp))))
       (first|(go_at_call 58;refine (HL.o _ (Only.refl _ _).drew).mono ?_;rintro e w4 ⟨rfl,h3⟩))
      have h5:Hid (Only [] wr w4):=(Only.refl _ _).drew.trans h3 (by simp);have y4:Hid (aN w4 w3.heap.size (.slice fa m fc) (mM c.m.M L (k+1))):=by
       show aN _ _ _ _;rw [x3.o];exact HI.o.only h5.o (by simp)
      have x4:Hid (Only [] w3 w4):=HO.o.trans h5.o (by simp);clear h3 HL HS h5 HI HO c1 g0 x3;go_wp2;exact ⟨⟨k+1,by omega,by go_num,y4.o,x4.o⟩,by simp [intOf];omega⟩
    have e7:k=n:=by omega
    subst e7;have HF:Hid (Fam w wr (P2 b g c c [PH q0 c.m.M,bT (.slice va k vc) L,bT (.slice fa m fc) (wH c.m.M L)])):=by
     have h1:=HI.o;rw [HN.o] at h1;exact x7.o.gY HO.o h1
    have x8:Hid (m=(wH c.m.M L).length):=by
     show m=(mM c.m.M L L.length).length;rw [<-HN.o];exact HM.o
    have f7:m<=40:=by have:=x1.o;omega
    clear HI HO x7 HM e9 h7 hk;obtain ⟨dd,ff,f1,f2,y9,b2,hh,d1,a3,b7,a4,e6⟩:=y5.o;obtain ⟨F,hF⟩:∃ F,F=wH c.m.M L:=⟨_,rfl⟩;obtain ⟨W,hW⟩:∃ W,W=c.m.M.jZ F:=⟨_,rfl⟩;have a0:Hid (Calls prog 60 #[.pointer (some ⟨q0,0,none⟩),.slice fa m fc] wr (aLz wr (W,0))):=by
     obtain ⟨k1,L1,X1,r1⟩:=HF.o.ph 2 rfl;have h1:=aHz wr r1 k1 fa m fc (wH c.m.M L) x8.o.symm (HF.o.ints 4 rfl).read (by omega) x6.o;rw [Hp.reach,if_neg (aBi _ _),<-hF,<-hW] at h1;exact h1
    rw [<-hF] at y9 hh x6 HF x8;rw [<-hW] at hh;have z8:=aA x9.o.ok.k;have e4:Hid (W.length<=192):=by
     show W.length<=192;rw [hW];exact Hp.aGT _ _
    have HB:Hid (∀ wx (ua:Option Addr) (un uc:Nat),Fam w wx (P2 b g c c [PH q0 c.m.M,bT (.slice va k vc) L,bT (.slice fa m fc) F,bT (.slice ua un uc) W])->Calls prog 51 #[.pointer (some ⟨b,0,none⟩),.slice fa m fc] wx (fun e w'=>e=.returned (.int .i64 0)/\Fam w w' (P2 b g dd c [PH q0 c.m.M,bT (.slice va k vc) L,bT (.slice fa m fc) F,bT (.slice ua un uc) W]))):=fun wx ua un uc hx=>by
     have h1:=vI (i:=0) wx hx rfl z8.o fa m fc F x8.o.symm (by omega) x6.o (fun wy hy=>(hy.ints 4 rfl).read);rw [y9] at h1;exact h1
    have z7:Hid (∀ wx (ua:Option Addr) (un uc:Nat),Fam w wx (P2 b g dd c [PH q0 c.m.M,bT (.slice va k vc) L,bT (.slice fa m fc) F,bT (.slice ua un uc) W])->Calls prog 44 #[.pointer (some ⟨b,0,none⟩)] wx (fun e w'=>e=.returned (.tuple #[.int .i64 f1,.int .i64 f2,.int .i64 0])/\Fam w w' (P2 b g ff c [PH q0 c.m.M,bT (.slice va k vc) L,bT (.slice fa m fc) F,bT (.slice ua un uc) W]))):=fun wx ua un uc hx=>by
     have h1:=mP (i:=0) wx hx rfl a4;rw [b2] at h1;exact h1
    have e3:=aA d1;have d7:=aA a3;have d9:=aA b7;have d8:=aA hh;have d3:=a0.o;clear hF hW y9 b2 hh d1 a3 b7 a4 e6 y5 x8 a0 HN x1 x6 z8 x9 z9;go_wp2_with fail;go_fit d3;rintro e w4 ⟨u,rfl,z0,h3⟩;obtain ⟨ua,uc,hu⟩:=z0.len;obtain ⟨un,d5⟩:∃ un,un=W.length:=⟨_,rfl⟩;rw [<-d5] at hu;subst hu;have a7:Fam w w4 (P2 b g c c [PH q0 c.m.M,bT (.slice va k vc) L,bT (.slice fa m fc) F,bT (.slice ua un uc) W]):=HF.o.gY h3 z0;have cb:=HB.o w4 ua un uc a7;clear d3 z0 h3 a7 HB HF d5;go_wp2_with fail;go_fit cb;rintro e w5 ⟨rfl,a8⟩;have cf:=z7.o w5 ua un uc a8;clear cb a8 z7;go_wp2_with fail;go_fit cf;rintro e w6 ⟨rfl,a9⟩;have h1:=aAj (i:=0) w6 a9 rfl;clear cf a9;go_wp2_with fail;go_fit h1;rintro e w7 ⟨q2,rfl,f0,y8⟩;have z5:=aA y8;obtain ⟨k2,L2,X2,r2⟩:=y8.ph 6 rfl;have cg:=qJ w7 r2 k2;rw [d8.o] at cg;clear h1 f0 y8 r2 k2;go_wp2_with fail;go_fit cg;rintro e w8 ⟨v8,rfl,z1,c5⟩;have y2:=aA (z5.o.aK c5);have ci:=aIm w8 v8 (.slice ua un uc) W z1.read (y2.o.ints 5 rfl).read (by have:=e4.o;omega);obtain ⟨g3,g4,f3⟩:=z1.len;subst f3;clear cg z1 c5 z5;go_wp2_with fail;go_fit ci;rintro e w9 ⟨rfl,c6⟩;have x2:=aA (y2.o.aK c6);have cp:=aKT (i:=0) x2.o rfl e3.o;have cq:=aDX (i:=0) w9 x2.o rfl;rw [d7.o] at cq;obtain ⟨k2,L2,X2,r2⟩:=x2.o.ph 6 rfl;have cl:=aDr w9 r2;clear ci c6 y2 r2 k2;go_wp2_with fail;go_fit cp;rintro e _ ⟨rfl,rfl⟩;clear cp;go_wp2_with fail;go_fit cq;rintro e _ ⟨rfl,rfl⟩;clear cq;go_wp2_with fail;go_fit cl;rintro e wa ⟨p1,b1,rfl,d2,c7,_,_⟩;have cm:=aJO wa p1 b1 _ d2;rw [d9.o] at cm;have z6:=aA (x2.o.aK c7);clear cl d2 c7 x2;go_wp2_with fail;go_fit cm;rintro e wc ⟨rfl,c8⟩;have cs:=aAe wc;have x5:Hid (Only [] w wc):=(z6.o.aK c8).1;clear cm c8 z6;go_wp2_with fail;go_fit cs;rintro e w5 ⟨rfl,ho⟩;have HE:=aA (aPs x5.o ho);clear cs ho;go_wp2;exact hR.o _ _ ⟨rfl,HE.o⟩
