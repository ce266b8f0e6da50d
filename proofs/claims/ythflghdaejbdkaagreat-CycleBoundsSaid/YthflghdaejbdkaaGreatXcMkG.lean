/- Lemmas of this claim. -/
import Derived.Test.YthflghdaejbdkaaGreatXcMkP
namespace Go.Proofs.YthflghdaejbdkaaGreat
open _root_.Go.Proofs.Tryz (prog)
open Go.RowKit Go.Maps
set_option maxHeartbeats 6400000
set_option maxRecDepth 100000
set_option linter.unusedVariables false
theorem jP (w:World) {L:Nat->Option Gb} {q:Nat} {M:Hp} {X:GX} (h:bH w L q M X) (hk:M.Ok) (x:Int):Calls prog 58 #[.pointer (some ⟨q,0,none⟩),.int .i64 x] w (fun e w'=>e=.returned (.bool (M.ob x).isSome)/\Only [] w w'):=by
 refine aF fun R z=>?_;have c:=aDl w h hk x;have he:=aFl M x;clear h hk;generalize (M.type x).1=a1 at*;generalize (M.type x).2.1=a2 at*;generalize (M.type x).2.2.1=a3 at*;rw [he] at c;clear he
 cases hs:(M.ob x).isSome with
 | true=>
  rw [hs] at c z;replace c:Calls prog _ _ _ (fun e w'=>e=.returned (.tuple #[.int .i64 a1,.int .i64 a2,.int .i64 a3,.int .i64 0])/\Only [] w w'):=c;go_in;go_wp2_with fail;refine c.mono ?_;rintro e w1 ⟨rfl,y⟩;have d:=aA y;clear c y;go_wp2;exact z.out _ _ ⟨rfl,d.out⟩
 | false=>
  rw [hs] at c z;replace c:Calls prog _ _ _ (fun e w'=>e=.returned (.tuple #[.int .i64 a1,.int .i64 a2,.int .i64 a3,.int .i64 3])/\Only [] w w'):=c;go_in;go_wp2_with fail;refine c.mono ?_;rintro e w1 ⟨rfl,y⟩;have d:=aA y;clear c y;go_wp2;exact z.out _ _ ⟨rfl,d.out⟩
section
variable {w0 w:World} {l:List Asn} {i j q r:Nat} {m:Mk}
theorem RL.gh (y:gX l i j) (z:Fam w0 w (RL l i j q r m)):m.M.Ok/\∃ L X,bH w L q m.M X:=z.gh i (RL.heap y)
theorem RL.lives (z:gX l i j) (y:Fam w0 w (RL l i j q r m)) (x:Int):Calls prog 58 #[.pointer (some ⟨q,0,none⟩),.int .i64 x] w (fun e w'=>e=.returned (.bool (m.M.ob x).isSome)/\Fam w0 w' (RL l i j q r m)):=by
 obtain ⟨hk,L,X,hg⟩:=RL.gh z y;exact (jP w hg hk x).mono fun e w' ⟨d,h2⟩=>⟨d,y.aN h2⟩
theorem aDT.cells {tg e:Nat} {v:Value} {T:List Int} {d:Int->Int} {y:List Int} (h:aDT w r q tg e v T d y):w.cell? ⟨r,0,none⟩=some (.pointer (some ⟨q,0,none⟩))/\w.cell? ⟨r,1,none⟩=some (.slice (some ⟨tg,0,none⟩) 193 e)/\w.cell? ⟨r,2,none⟩=some v/\∀ k,w.frozen? ⟨r,k,none⟩=false:=by
 obtain ⟨U,z⟩:=h.row;exact ⟨z.cell 0 rfl,z.cell 1 rfl,z.cell 2 rfl,fun k=>z.free k⟩
theorem aDT.aCm {tg tc:Nat} {v:Value} {T:List Int} {z:Int->Int} {d:List Int} (h:aDT w r q tg tc v T z d) {y:Nat} (hy:y<193):w.cell? ⟨tg,y,none⟩=some (.int .i64 (z y))/\w.frozen? ⟨tg,y,none⟩=false:=by
 obtain ⟨_,_,cs,hr,_⟩:=h.tint.row;refine ⟨?_,hr.free y⟩;rcases h.tint.form with ⟨e,_⟩|⟨g,cap,e,_,_,_,hc⟩
 ·cases e
 simp only [Value.slice.injEq,Option.some.injEq,Addr.mk.injEq] at e;obtain ⟨⟨rfl,_⟩,_,_⟩:=e;rw [<-h.tv y hy];exact hc y (by rw [h.tl];exact hy)
theorem iQ (w:World) (T2:gX l i j) (hf:Fam w0 w (RL l i j q r m)) (hm:m.Ok) (x:Int):Calls prog 159 #[.pointer (some ⟨r,0,none⟩),.int .i64 x] w (fun e w'=>e=.returned (.tuple #[])/\Fam w0 w' (RL l i j q r (m.bI x))):=by
 refine aF fun R hR=>?_;obtain ⟨tg,tc,v,T,hg⟩:=RL.mk T2 hf;obtain ⟨z0,_,_,_⟩:=hg.cells;have HF:=aA hf;have HM:=aA hm
 by_cases x2:x=0
 ·have h0:m.bI x=m:=by unfold Mk.bI;rw [if_neg (fun h=>(Mk.kL.1 h).1 x2)]
  rw [h0] at hR;subst x2;clear hf hm hg h0;go_in;go_wp2_with fail;go_end0;exact hR.out _ _ ⟨rfl,HF.out⟩
 have z8:(x != 0)=true:=by simpa using x2
 have c:=RL.lives T2 hf x;clear hf hm hg;go_in;go_wp2_with fail;refine c.mono ?_;rintro e w1 ⟨rfl,hf⟩;have x7:=aA hf;obtain ⟨tg,tc,v,T,hg,ht⟩:=RL.mkT T2 hf;have HT:=aA ht;have HG:=aA hg;obtain ⟨z0,z1,z2,zf⟩:=hg.cells;clear c hf hg HF ht
 cases hs:(m.M.ob x).isSome with
 | false=>
  have h0:m.bI x=m:=by unfold Mk.bI;rw [if_neg (fun h=>by have:=(Mk.kL.1 h).2.1;rw [hs] at this;cases this)]
  rw [h0] at hR;clear h0 hs;go_wp2_with fail;go_end0;exact hR.out _ _ ⟨rfl,x7.out⟩
 | true=>
  obtain ⟨h1,h2⟩:=HM.out.hf.ok.inR hs;obtain ⟨y,hy⟩:∃ y:Nat,x=(y:Int):=⟨x.toNat,by omega⟩;subst hy;have y5:y<193:=by omega
  have z9:(0:Int)<=(y:Int):=by omega
  have a0:(y:Int)<193:=by omega
  obtain ⟨t0,tf⟩:=HG.out.aCm y5
  by_cases hc:m.col (y:Int)=0
  ·have h0:m.bI (y:Int)=⟨m.M,jO m.col y 1,m.list ++ [(y:Int)]⟩:=by unfold Mk.bI;rw [if_pos (Mk.kL.2 ⟨x2,hs,hc⟩)]
   rw [h0] at hR;rw [hc] at t0;clear h0 hs hc h1 h2;have h4:Hid (Only [tg] w1 (w1.setCell ⟨tg,y,none⟩ (.int .i64 1))):=(Only.refl [tg] w1).set (.inl (by simp)) _;have h9:=HG.out.ne;have x8:=aA h9;have y7:Hid (aK (w1.setCell ⟨tg,y,none⟩ (.int .i64 1)) 0 v m.list):=HG.out.ints.only h4.out (fun k hk=>by have:=(HG.out.ne2 k hk).2;simpa using this);have z6:Hid (aK (w1.setCell ⟨tg,y,none⟩ (.int .i64 1)) 0 (.slice (some ⟨tg,0,none⟩) 193 tc) (T.set y 1)):=HG.out.tint.setAt y 1;have y0:Hid ((T.set y 1).length=193/\∀ k:Nat,k<193->gI (T.set y 1) k=jO m.col (y:Int) 1 k):=⟨by rw [List.length_set];exact HG.out.tl,fun k hk=>by
    rw [rX (by rw [HG.out.tl];exact y5)]
    by_cases e:k=y
    ·rw [if_pos e,e,bY]
    rw [if_neg e,bG _ _ (show (k:Int)≠(y:Int) by omega)];exact HG.out.tv k hk⟩
   have z4:Hid (∃ U,Row (w1.setCell ⟨tg,y,none⟩ (.int .i64 1)) r U [.pointer (some ⟨q,0,none⟩),.slice (some ⟨tg,0,none⟩) 193 tc,v]):=HG.out.row.imp fun U x=>h4.out.row x (by simpa using h9);have a1:(w1.setCell ⟨tg,y,none⟩ (.int .i64 1)).cell? ⟨r,2,none⟩=some v:=h4.out.cell z2 (by simpa using h9);have y8:=aA HM.out.len;have h5:=aA HG.out.ne2;have y3:r<w1.heap.size:=by obtain ⟨U,hr⟩:=HG.out.row;exact hr.lt
   have y9:=aA y3;have y4:tg<w1.heap.size:=(HG.out.tint.own tg rfl).2;have z5:=aA y4;have x9:Hid ((w1.setCell ⟨tg,y,none⟩ (.int .i64 1)).heap.size=w1.heap.size):=by show _=_;simp
   clear h9 y3 y4;go_wp2_with (at_builtin;refine bJ rfl _ _ rfl 0 _ _ rfl (y7.out.alloc _) w1.heap.size (y:Int) rfl ?c1 ?c2 ?c3 ?c4)
   case c1=>
    have h7:=(Row.new (w1.setCell ⟨tg,y,none⟩ (.int .i64 1)) 3 [.int .i64 (y:Int)]).cell 0 rfl;rw [x9.out] at h7;exact h7
   case c2=>have:=y8.out;omega
   case c3=>simp
   case c4=>
    intro v' w3 x4 x1 y2;obtain ⟨va,vc,rfl⟩:=x4.len;generalize w1.setCell ⟨tg,y,none⟩ (.int .i64 1)=w2 at*;have x3:r∉v.ownBlock.toList:=fun d=>by
     cases e:v.ownBlock with
     | none=>rw [e] at d;simp at d
     | some g=>rw [e] at d;simp at d;exact (h5.out g e).1 d.symm
    have y1:tg∉v.ownBlock.toList:=fun d=>by
     cases e:v.ownBlock with
     | none=>rw [e] at d;simp at d
     | some g=>rw [e] at d;simp at d;exact (h5.out g e).2 d.symm
    have h3:∃ U,Row w3 r U [.pointer (some ⟨q,0,none⟩),.slice (some ⟨tg,0,none⟩) 193 tc,v]:=z4.out.imp fun U x=>x1.row (x.alloc _) x3;have x6:w3.cell? ⟨r,2,none⟩=some v/\w3.frozen? ⟨r,2,none⟩=false:=by
     obtain ⟨U,x⟩:=h3;exact ⟨x.cell 2 rfl,x.free 2⟩
    obtain ⟨z3,a2⟩:=x6;have h8:∀ g,(Value.slice va (m.list ++ [(y:Int)]).length vc).ownBlock=some g->v.ownBlock=some g\/w2.heap.size<=g:=fun g hg=>by
     rcases y2 with e|e
     ·exact .inl (e.symm.trans hg)
     right;rw [e] at hg;simp at hg;have:=x9.out;omega
    have h6:∀ g,(Value.slice va (m.list ++ [(y:Int)]).length vc).ownBlock=some g->g≠r/\g≠tg:=fun g hg=>by
     rcases h8 g hg with e|e
     ·exact h5.out g e
     have q1:=h4.out.size;have q2:=y9.out;have q3:=z5.out;exact ⟨by omega,by omega⟩
    have x5:Only [r] w3 (w3.setCell ⟨r,2,none⟩ (Value.slice va (m.list ++ [(y:Int)]).length vc)):=(Only.refl [r] w3).set (.inl (by simp)) _;have hP:aI (fun k=>k=r\/k=tg\/v.ownBlock=some k) w1 (w3.setCell ⟨r,2,none⟩ (Value.slice va (m.list ++ [(y:Int)]).length vc)):=by
     have p1:aI (fun k=>k=r\/k=tg\/v.ownBlock=some k) w1 (w2.alloc (.cells #[.int .i64 (y:Int)] 3)):=(h4.out.toP (fun z hz=>.inl (.inr (.inl (by simpa using hz))))).alloc _;refine (p1.trans (x1.toP (S:=fun k=>v.ownBlock=some k) (fun z hz=>.inl (by
      cases e:v.ownBlock with
      | none=>rw [e] at hz;simp at hz
      | some g=>rw [e] at hz;simp at hz;rw [hz]))) (fun z hz=>.inl (.inr (.inr hz)))).set (.inl (.inl rfl)) _
    have y6:Hid (Fam w0 (w3.setCell ⟨r,2,none⟩ (Value.slice va (m.list ++ [(y:Int)]).length vc)) (RL l i j q r ⟨m.M,jO m.col y 1,m.list ++ [(y:Int)]⟩)):=
     HT.out _ tg tc _ _ _ _ ⟨h3.imp fun U y=>y.set 2 _,((z6.out.alloc _).only x1 (fun k hk=>by cases hk;exact y1)).only x5 (fun k hk=>by cases hk;simpa using Ne.symm x8.out),y0.out.1,y0.out.2,x4.only x5 (fun k hk=>by have:=(h6 k hk).1;simpa using this),x8.out,h6⟩ (.inl rfl)
      (fun g hg=>(h8 g hg).imp id (fun y=>Nat.le_trans h4.out.size y)) hP
    generalize (m.list ++ [(y:Int)]).length=qn at*;clear x4 x1 y2 x3 y1 h3 h8 h6 x5 hP;go_wp2_with fail;go_end0;exact hR.out _ _ ⟨rfl,y6.out⟩
  have h0:m.bI (y:Int)=m:=by unfold Mk.bI;rw [if_neg (fun h=>hc (Mk.kL.1 h).2.2)]
  rw [h0] at hR;have z7:(m.col (y:Int) == 0)=false:=by simpa using hc
  clear h0 hs h1 h2;go_wp2_with fail;go_end0;exact hR.out _ _ ⟨rfl,x7.out⟩
end
section
variable {w0 w:World} {l:List Asn} {i j q r:Nat} {m:Mk}
theorem aKl (w:World) (T2:gX l i j) (hf:Fam w0 w (RL l i j q r m)):Calls prog 157 #[.pointer (some ⟨r,0,none⟩)] w (aO w (.tuple #[.int .i64 m.next.1,.int .i64 m.next.2])):=by
 refine aF fun R z=>?_;obtain ⟨tg,tc,v,T,hg⟩:=RL.mk T2 hf;obtain ⟨z0,z1,d,_⟩:=hg.cells;have y:=hg.ints;clear hf hg;unfold Mk.next at z
 cases e:m.list with
 | nil=>
  rw [e] at y z;obtain ⟨a,c,rfl⟩:=y.len;clear y;replace d:w.cell? ⟨r,2,none⟩=some (.slice a 0 c):=d;go_in;go_wp2;exact z.out _ _ ⟨rfl,rfl⟩
 | cons x t=>
  rw [e] at y z;obtain ⟨a,c,rfl⟩:=y.len;obtain ⟨b,o,rfl,hc⟩:=y.read.at (k:=0) (by simp);rw [Nat.add_zero] at hc;replace hc:w.cell? ⟨b,o,none⟩=some (.int .i64 x):=hc;replace d:w.cell? ⟨r,2,none⟩=some (.slice (some ⟨b,o,none⟩) (t.length+1) c):=d;generalize t.length=n at*;clear y;have h0:((n:Int)+1 == 0)=false:=by rw [beq_eq_false_iff_ne];omega
  have h1:(0:Int)<(n:Int)+1:=by omega
  go_in;go_wp2;exact z.out _ _ ⟨rfl,rfl⟩
theorem jX (w:World) (T2:gX l i j) (hf:Fam w0 w (RL l i j q r m)):Calls prog 71 #[.pointer (some ⟨r,0,none⟩)] w (aO w (.bool (decide (m.list=[])))):=by
 refine aF fun R y=>?_;obtain ⟨tg,tc,v,T,hg⟩:=RL.mk T2 hf;obtain ⟨z0,z1,d,_⟩:=hg.cells;have z:=hg.ints;clear hf hg
 cases e:m.list with
 | nil=>
  rw [e] at z y;obtain ⟨a,c,rfl⟩:=z.len;clear z;replace d:w.cell? ⟨r,2,none⟩=some (.slice a 0 c):=d;go_in;go_wp2;exact y.out _ _ ⟨rfl,rfl⟩
 | cons x t=>
  rw [e] at z y;obtain ⟨a,c,rfl⟩:=z.len;clear z;replace d:w.cell? ⟨r,2,none⟩=some (.slice a (t.length+1) c):=d;replace y:Hid (∀ e w',aO w (.bool false) e w'->R e w'):=y;generalize t.length=n at*;have h0:((n:Int)+1 == 0)=false:=by rw [beq_eq_false_iff_ne];omega
  go_in;go_wp2;exact y.out _ _ ⟨rfl,rfl⟩
theorem aAQ (w:World) (T2:gX l i j) (hf:Fam w0 w (RL l i j q r m)) (x:Int):Calls prog 216 #[.pointer (some ⟨r,0,none⟩),.int .i64 x] w (fun e w'=>e=.returned (.tuple #[.int .i64 (m.color x).1,.int .i64 (m.color x).2])/\Only [] w w'):=by
 refine aF fun R hR=>?_;obtain ⟨tg,tc,v,T,hg⟩:=RL.mk T2 hf;obtain ⟨z0,z1,z2,_⟩:=hg.cells;obtain ⟨hk,L,X,hp⟩:=RL.gh T2 hf;have d:=jP w hp hk x;have HG:=aA hg;have HK:=aA hk;unfold Mk.color at hR;clear hf hg hp hk
 cases hs:(m.M.ob x).isSome with
 | true=>
  have h0:=HK.out.inR hs;obtain ⟨y,hy⟩:∃ y:Nat,x=(y:Int):=⟨x.toNat,by omega⟩;subst hy;have h3:y<193:=by omega
  have h4:(0:Int)<=(y:Int):=by omega
  have h5:(y:Int)<193:=by omega
  rw [hs] at d hR;clear h0;go_in;go_wp2_with fail;refine d.mono ?_;rintro e w1 ⟨rfl,z⟩;have HO:=aA z;have h1:=z.cell (HG.out.aCm h3).1 (by simp);have h2:=z.cell z1 (by simp);clear d z;go_wp2;exact hR.out _ _ ⟨rfl,HO.out⟩
 | false=>
  rw [hs] at d hR;go_in;go_wp2_with fail;refine d.mono ?_;rintro e w1 ⟨rfl,z⟩;have HO:=aA z;clear d z;go_wp2;exact hR.out _ _ ⟨rfl,HO.out⟩
theorem aAP (w:World) (T2:gX l i j) (y:Fam w0 w (RL l i j q r m)) (hm:m.Ok) (x:Int):Calls prog 150 #[.pointer (some ⟨r,0,none⟩),.int .i64 x] w (fun e w'=>e=.returned (.int .i64 (m.jS x))/\Fam w0 w' (RL l i j q r (m.bI x))):=by
 refine aF fun R hR=>?_;obtain ⟨tg,tc,v,T,hg⟩:=RL.mk T2 y;obtain ⟨z0,z1,z2,_⟩:=hg.cells;have HF:=aA y;have HM:=aA hm
 by_cases d:x=0
 ·have he:m.jS x=0:=by unfold Mk.jS;rw [if_neg (fun h=>h.1 d)]
  rw [he] at hR;have cs:=iQ w T2 y hm x;clear y hg hm he;subst d;go_in;go_wp2_with fail;refine cs.mono ?_;rintro e w1 ⟨rfl,y⟩;have z:=aA y;clear y cs;go_wp2;exact hR.out _ _ ⟨rfl,z.out⟩
 have h1:(x != 0)=true:=by simpa using d
 have hu:=RL.lives T2 y x
 cases hs:(m.M.ob x).isSome with
 | true=>
  have he:m.jS x=0:=by unfold Mk.jS;rw [if_neg (fun h=>by have:=h.2;rw [hs] at this;cases this)]
  rw [he] at hR;rw [hs] at hu;clear y hg hm he;go_in;go_wp2_with fail;refine hu.mono ?_;rintro e w1 ⟨rfl,y⟩;have cs:=iQ w1 T2 y HM.out x;clear y hu;go_wp2_with fail;refine cs.mono ?_;rintro e w2 ⟨rfl,y⟩;have z:=aA y;clear y cs;go_wp2;exact hR.out _ _ ⟨rfl,z.out⟩
 | false=>
  have he:m.jS x=3:=by unfold Mk.jS;rw [if_pos ⟨d,hs⟩]
  have h0:m.bI x=m:=by unfold Mk.bI;rw [if_neg (fun h=>by have:=(Mk.kL.1 h).2.1;rw [hs] at this;cases this)]
  rw [he,h0] at hR;rw [hs] at hu;clear y hg hm he h0;go_in;go_wp2_with fail;refine hu.mono ?_;rintro e w1 ⟨rfl,y⟩;have z:=aA y;clear y hu;go_wp2;exact hR.out _ _ ⟨rfl,z.out⟩
end
theorem RL.app {l:List Asn} {i j q r:Nat} {m:Mk} (h:gX l i j) (A:Asn):RL (l ++ [A]) i j q r m=RL l i j q r m ++ [A]:=by
 unfold RL;rw [List.set_append_left _ _ h.hi,List.set_append_left _ _ (by rw [List.length_set];exact h.hj)]
theorem RL.at {l:List Asn} {i j q r:Nat} {m:Mk} {A:Asn} (h:gX l i j):(RL (l ++ [A]) i j q r m)[l.length]?=some A:=by
 rw [RL.app h];have:(RL l i j q r m).length=l.length:=by unfold RL;simp
 rw [<-this];simp
section
variable {w0 w:World} {l:List Asn} {i j q r:Nat} {m:Mk}
theorem aDm (w:World) (T2:gX l i j) (hf:Fam w0 w (RL l i j q r m)) (hm:m.Ok):Calls prog 72 #[.pointer (some ⟨r,0,none⟩)] w (fun e w'=>e=.returned (.tuple #[.int .i64 m.step.1,.int .i64 m.step.2.1])/\Fam w0 w' (RL l i j q r m.step.2.2)):=by
 refine aF fun R hR=>?_;have cn:=aKl w T2 hf;have a3:m.next=(m.step.1,m.step.2.1):=by unfold Mk.next Mk.step;cases m.list<;>rfl
 rw [a3] at cn
 cases e:m.list with
 | nil=>
  have hs:m.step=(0,3,m):=by unfold Mk.step;rw [e]
  rw [hs] at cn hR;have HF:=aA hf;clear hf hm a3 hs e;go_in;go_wp2_with fail;refine cn.mono ?_;rintro e _ ⟨rfl,rfl⟩;go_wp2;exact hR.out _ _ ⟨rfl,HF.out⟩
 | cons x0 t=>
  have hs:m.step=(x0,0,m.dN x0):=by unfold Mk.step;rw [e]
  rw [hs] at cn hR;have b7:=hm.inR (x:=x0) (by rw [e];simp);obtain ⟨x,hx⟩:∃ x:Nat,x0=(x:Int):=⟨x0.toNat,by omega⟩;subst hx;obtain ⟨tg,tc,v,T,hg,ht⟩:=RL.mkT T2 hf;have HM:=aA hm;obtain ⟨z0,z1,z2,zf⟩:=hg.cells;have hi:=hg.ints;rw [e] at hi;obtain ⟨a,c,rfl⟩:=hi.len;obtain ⟨b,o,rfl,hc⟩:=hi.read.at (k:=0) (by simp);replace z2:w.cell? ⟨r,2,none⟩=some (.slice (some ⟨b,o,none⟩) (t.length+1) c):=z2;have z7:t.length+1<=c:=by
   rcases hi.form with ⟨h1,_⟩|⟨g,cap,h1,_,_,h3,_⟩
   ·cases h1
   simp only [Value.slice.injEq] at h1;obtain ⟨_,_,rfl⟩:=h1;exact h3
  have a8:Hid (∀ k,k<t.length->w.cell? ⟨b,o+(k+1),none⟩=some (.int .i64 (gI t k))):=fun k hk=>by
   obtain ⟨b2,o2,e2,h4⟩:=hi.read.at (k:=k+1) (by simp;omega)
   cases e2
   rw [h4];simp [gI]
  have b8:Hid (t.length<=192):=by have:=hm.len;rw [e] at this;simp at this;show _<=_;omega
  obtain ⟨z8,z9⟩:=hm.rest e;have a7:=aA z8;have b3:=aA z9;have z4:Hid (x<193):=by show _<_;omega
  have z3:Hid (r<w.heap.size):=by obtain ⟨U,hr⟩:=hg.row;exact hr.lt
  have z6:Hid (tg<w.heap.size):=(hg.tint.own tg rfl).2;have z5:Hid (∃ U,Row w r U [.pointer (some ⟨q,0,none⟩),.slice (some ⟨tg,0,none⟩) 193 tc,.slice (some ⟨b,o,none⟩) (t.length+1) c]):=hg.row;have a9:Hid (∀ (w':World) (v':Value) (T':List Int) (c:Int->Int) (t:List Int),aDT w' r q tg tc v' T' c t->(∀ g,v'.ownBlock=some g->w.heap.size<=g)->aI (fun k=>k=r\/k=tg\/some b=some k) w w'->Fam w0 w' (RL l i j q r ⟨m.M,c,t⟩)):=fun w' v' T' c t h1 h2 h3=>ht w' tg tc v' T' c t h1 (.inl rfl) (fun g hg=>.inr (h2 g hg)) h3;have b1:=aA hg.tint;have y1:=aA hg.tl;have b0:=aA hg.tv;have y0:=aA hg.ne;have c9:(0:Int)<=(x:Int):=by omega
  have d0:(x:Int)<193:=by omega
  clear hf hm a3 hs e hg ht hi hc z8 z9 b7
  by_cases b9:c=1
  ·subst b9;have a5:t.length=0:=by omega
   have y4:Hid (t.length=0):=a5;rw [a5] at z2 z5;replace z2:w.cell? ⟨r,2,none⟩=some (.slice (some ⟨b,o,none⟩) 1 1):=z2;clear z7 a5;go_in;go_wp2_with fail;refine cn.mono ?_;rintro e _ ⟨rfl,rfl⟩;go_wp2_with (at_builtin;refine gV rfl _ _ rfl w.heap.size _ [] rfl (aK.nil _ _) ⟨b,o,none⟩ 0 _ t rfl ?c1 ?c2 ?c3 ?c4 ?c5)
   case c1=>exact y4.out
   case c2=>
    intro k u hu;have hk:k<t.length:=(List.getElem?_eq_some_iff.1 hu).1;have h7:=a8.out k hk;have:=y4.out;omega
   case c3=>simp
   case c4=>simp
   case c5=>
    intro v1 d h0 h5 _ _;replace h0:aK d w.heap.size v1 t:=h0;replace h5:Only [] w d:=h5;have b5:=aA h0;have b6:=aA h5;have h6:∃ U,Row d r U [.pointer (some ⟨q,0,none⟩),.slice (some ⟨tg,0,none⟩) 193 tc,.slice (some ⟨b,o,none⟩) (0+1) 1]:=z5.out.imp fun U x=>h5.row x (by simp);have hz:d.cell? ⟨r,2,none⟩=some (.slice (some ⟨b,o,none⟩) (0+1) 1)/\d.frozen? ⟨r,2,none⟩=false:=by
     obtain ⟨U,x⟩:=h6;exact ⟨x.cell 2 rfl,x.free 2⟩
    obtain ⟨y2,yf⟩:=hz;have h9:Hid (∀ g,v1.ownBlock=some g->w.heap.size<=g/\g<d.heap.size):=fun g hg=>h0.own g hg;have x1:Only [r] d (d.setCell ⟨r,2,none⟩ v1):=(Only.refl [r] d).set (.inl (by simp)) _;have h8:∃ U,Row (d.setCell ⟨r,2,none⟩ v1) r U [.pointer (some ⟨q,0,none⟩),.slice (some ⟨tg,0,none⟩) 193 tc,v1]:=h6.imp fun U y=>y.set 2 _;have x3:aK (d.setCell ⟨r,2,none⟩ v1) 0 (.slice (some ⟨tg,0,none⟩) 193 tc) T:=(b1.out.only h5 (by simp)).only x1 (fun k hk=>by cases hk;simpa using Ne.symm y0.out);have y5:aK (d.setCell ⟨r,2,none⟩ v1) 0 v1 t:=(h0.base (Nat.zero_le _)).only x1 (fun k hk=>by have:=h9.out k hk;have:=z3.out;simp;omega);have t0:(d.setCell ⟨r,2,none⟩ v1).frozen? ⟨tg,x,none⟩=false/\∃ z,(d.setCell ⟨r,2,none⟩ v1).cell? ⟨tg,x,none⟩=some z:=by
     obtain ⟨_,_,cs,hr,_⟩:=x3.row;refine ⟨hr.free x,?_⟩;rcases x3.form with ⟨e,_⟩|⟨g,cap,e,_,_,_,hc⟩
     ·cases e
     simp only [Value.slice.injEq,Option.some.injEq,Addr.mk.injEq] at e;obtain ⟨⟨rfl,_⟩,_,_⟩:=e;exact ⟨_,hc x (by rw [y1.out];exact z4.out)⟩
    obtain ⟨tf,tz,t0⟩:=t0;have a6:(d.setCell ⟨r,2,none⟩ v1).cell? ⟨r,1,none⟩=some (.slice (some ⟨tg,0,none⟩) 193 tc):=by
     obtain ⟨U,x⟩:=h8;exact x.cell 1 rfl
    have x2:Only [tg] (d.setCell ⟨r,2,none⟩ v1) ((d.setCell ⟨r,2,none⟩ v1).setCell ⟨tg,x,none⟩ (.int .i64 2)):=(Only.refl [tg] _).set (.inl (by simp)) _;have x5:aDT ((d.setCell ⟨r,2,none⟩ v1).setCell ⟨tg,x,none⟩ (.int .i64 2)) r q tg tc v1 (T.set x 2) (jO m.col x 2) t:=⟨h8.imp fun U y=>x2.row y (by simpa using y0.out),x3.setAt x 2,by rw [List.length_set];exact y1.out,fun k hk=>by
     rw [rX (by rw [y1.out];exact z4.out)]
     by_cases e:k=x
     ·rw [if_pos e,e,bY]
     rw [if_neg e,bG _ _ (show (k:Int)≠(x:Int) by omega)];exact b0.out k hk,y5.only x2 (fun k hk=>by have:=h9.out k hk;have:=z6.out;simp;omega),y0.out,fun g hg=>by have:=h9.out g hg;have:=z3.out;have:=z6.out;exact ⟨by omega,by omega⟩⟩
    have hP:aI (fun k=>k=r\/k=tg\/some b=some k) w ((d.setCell ⟨r,2,none⟩ v1).setCell ⟨tg,x,none⟩ (.int .i64 2)):=((h5.xA (S:=fun k=>k=r\/k=tg\/some b=some k)).trans (x1.toP (S:=fun k=>k=r) (fun z hz=>.inl (by simpa using hz))) (fun z hz=>.inl (.inl hz))).trans (x2.toP (S:=fun k=>k=tg) (fun z hz=>.inl (by simpa using hz))) (fun z hz=>.inl (.inr (.inl hz)));have x6:=a9.out _ v1 _ _ _ x5 (fun g hg=>(h9.out g hg).1) hP;have a0:=aA x6;obtain ⟨q0,q1,q2,qf⟩:=x5.cells;obtain ⟨y6,L3,X3,y8⟩:=RL.gh T2 x6;have cr:=zB _ y8 y6 x;obtain ⟨va,vc,rfl⟩:=h0.len;clear h6 x1 h8 x3 y5 x2 x5 hP x6 y8 y6 h0 h5;generalize t.length=n1 at*;go_wp2_with fail;refine cr.mono ?_;rintro e w4 ⟨vr,rfl,x7,y7⟩;have x4:Hid (Fam w0 w4 (RL (l ++ [dG vr (m.M.refs x).1]) i j q r ⟨m.M,jO m.col x 2,t⟩)):=by
     show Fam _ _ _;rw [RL.app T2];exact a0.out.iK y7 x7
    obtain ⟨ra,rc,rfl⟩:=x7.len;obtain ⟨rn,x9⟩:∃ z,z=(m.M.refs x).1.length:=⟨_,rfl⟩;have y3:=aA x9;have a4:=qU HM.out.hf.ok (x:Int);rw [<-x9] at a4 x4 ⊢;clear cr x7 y7 x9 y2 yf t0 tf a6 q0 q1 q2 qf;go_wp2;go_loopw [8] (fun iv wr=>∃ k:Nat,k<=rn/\iv=.int .i64 k/\Fam w0 wr (RL (l ++ [dG (.slice ra rn rc) (m.M.refs x).1]) i j q r ((⟨m.M,jO m.col x 2,t⟩:Mk).bC ((m.M.refs x).1.take k)))) (fun iv _=>rn - (intOf iv).toNat)
    case atStart=>exact ⟨0,by omega,rfl,x4.out⟩
    case round=>
     clear x4;obtain ⟨k,hk,rfl,hf⟩:=hrel;have HF:=aA hf;clear hf
     by_cases a2:k<rn
     ·have y9:(k:Int)<rn:=by omega
      have c0:(0:Int)<=k:=by omega
      have x8:k<(m.M.refs x).1.length:=by rw [<-y3.out];exact a2
      obtain ⟨b4,o4,rfl,hc⟩:=(HF.out.ints l.length (RL.at T2)).read.at x8;have cs:=iQ wr (T2.app _) HF.out (Mk.Ok.bC _ _ a7.out) (gI (m.M.refs x).1 k);rw [<-lQ x8] at cs;clear x8;generalize gI (m.M.refs x).1 k=y at*;go_wp2_with fail;refine cs.mono ?_;rintro e w5 ⟨rfl,hf⟩;have a1:=aA hf;clear cs hf hc HF;go_wp2;exact ⟨⟨k+1,by omega,by go_num,a1.out⟩,by simp [intOf];omega⟩
     obtain rfl:k=rn:=by omega
     have y9:¬ (k:Int)<(k:Int):=by omega
     have HE:Hid (Fam w0 wr (RL l i j q r (m.dN x))):=by
      have h7:=HF.out;rw [List.take_of_length_le (by have:=y3.out;omega),b3.out,RL.app T2] at h7;exact h7.pop
     go_wp2;exact hR.out _ _ ⟨rfl,HE.out⟩
  have c6:1<c:=by omega
  obtain ⟨n,hn⟩:∃ z,z=t.length:=⟨_,rfl⟩;have y4:Hid (t.length=n):=hn.symm;rw [<-hn] at z2 z5 z7;have c7:(1:Int)<=((n+1:Nat):Int):=by omega
  have c8:((n+1:Nat):Int)<=c:=by omega
  clear hn;go_in;go_wp2_with fail;refine cn.mono ?_;rintro e _ ⟨rfl,rfl⟩;go_wp2_with (at_builtin;refine gV rfl _ _ rfl w.heap.size _ [] rfl (aK.nil _ _) ⟨b,o+1,none⟩ n _ t rfl ?c1 ?c2 ?c3 ?c4 ?c5)
  case c1=>exact y4.out
  case c2=>
   intro k u hu;have hk:k<t.length:=(List.getElem?_eq_some_iff.1 hu).1;have h7:=a8.out k hk;rw [show (⟨b,o+1,none⟩:Addr).add k=⟨b,o+(k+1),none⟩ by unfold Addr.add;split<;>simp_all;omega,h7,gI,hu]
   rfl
  case c3=>have:=b8.out;have:=y4.out;simp;omega
  case c4=>simp
  case c5=>
   intro v1 d h0 h5 _ _;replace h0:aK d w.heap.size v1 t:=h0;replace h5:Only [] w d:=h5;have b5:=aA h0;have b6:=aA h5;have h6:∃ U,Row d r U [.pointer (some ⟨q,0,none⟩),.slice (some ⟨tg,0,none⟩) 193 tc,.slice (some ⟨b,o,none⟩) (n+1) c]:=z5.out.imp fun U x=>h5.row x (by simp);have hz:d.cell? ⟨r,2,none⟩=some (.slice (some ⟨b,o,none⟩) (n+1) c)/\d.frozen? ⟨r,2,none⟩=false:=by
    obtain ⟨U,x⟩:=h6;exact ⟨x.cell 2 rfl,x.free 2⟩
   obtain ⟨y2,yf⟩:=hz;have h9:Hid (∀ g,v1.ownBlock=some g->w.heap.size<=g/\g<d.heap.size):=fun g hg=>h0.own g hg;have x1:Only [r] d (d.setCell ⟨r,2,none⟩ v1):=(Only.refl [r] d).set (.inl (by simp)) _;have h8:∃ U,Row (d.setCell ⟨r,2,none⟩ v1) r U [.pointer (some ⟨q,0,none⟩),.slice (some ⟨tg,0,none⟩) 193 tc,v1]:=h6.imp fun U y=>y.set 2 _;have x3:aK (d.setCell ⟨r,2,none⟩ v1) 0 (.slice (some ⟨tg,0,none⟩) 193 tc) T:=(b1.out.only h5 (by simp)).only x1 (fun k hk=>by cases hk;simpa using Ne.symm y0.out);have y5:aK (d.setCell ⟨r,2,none⟩ v1) 0 v1 t:=(h0.base (Nat.zero_le _)).only x1 (fun k hk=>by have:=h9.out k hk;have:=z3.out;simp;omega);have t0:(d.setCell ⟨r,2,none⟩ v1).frozen? ⟨tg,x,none⟩=false/\∃ z,(d.setCell ⟨r,2,none⟩ v1).cell? ⟨tg,x,none⟩=some z:=by
    obtain ⟨_,_,cs,hr,_⟩:=x3.row;refine ⟨hr.free x,?_⟩;rcases x3.form with ⟨e,_⟩|⟨g,cap,e,_,_,_,hc⟩
    ·cases e
    simp only [Value.slice.injEq,Option.some.injEq,Addr.mk.injEq] at e;obtain ⟨⟨rfl,_⟩,_,_⟩:=e;exact ⟨_,hc x (by rw [y1.out];exact z4.out)⟩
   obtain ⟨tf,tz,t0⟩:=t0;have a6:(d.setCell ⟨r,2,none⟩ v1).cell? ⟨r,1,none⟩=some (.slice (some ⟨tg,0,none⟩) 193 tc):=by
    obtain ⟨U,x⟩:=h8;exact x.cell 1 rfl
   have x2:Only [tg] (d.setCell ⟨r,2,none⟩ v1) ((d.setCell ⟨r,2,none⟩ v1).setCell ⟨tg,x,none⟩ (.int .i64 2)):=(Only.refl [tg] _).set (.inl (by simp)) _;have x5:aDT ((d.setCell ⟨r,2,none⟩ v1).setCell ⟨tg,x,none⟩ (.int .i64 2)) r q tg tc v1 (T.set x 2) (jO m.col x 2) t:=⟨h8.imp fun U y=>x2.row y (by simpa using y0.out),x3.setAt x 2,by rw [List.length_set];exact y1.out,fun k hk=>by
    rw [rX (by rw [y1.out];exact z4.out)]
    by_cases e:k=x
    ·rw [if_pos e,e,bY]
    rw [if_neg e,bG _ _ (show (k:Int)≠(x:Int) by omega)];exact b0.out k hk,y5.only x2 (fun k hk=>by have:=h9.out k hk;have:=z6.out;simp;omega),y0.out,fun g hg=>by have:=h9.out g hg;have:=z3.out;have:=z6.out;exact ⟨by omega,by omega⟩⟩
   have hP:aI (fun k=>k=r\/k=tg\/some b=some k) w ((d.setCell ⟨r,2,none⟩ v1).setCell ⟨tg,x,none⟩ (.int .i64 2)):=((h5.xA (S:=fun k=>k=r\/k=tg\/some b=some k)).trans (x1.toP (S:=fun k=>k=r) (fun z hz=>.inl (by simpa using hz))) (fun z hz=>.inl (.inl hz))).trans (x2.toP (S:=fun k=>k=tg) (fun z hz=>.inl (by simpa using hz))) (fun z hz=>.inl (.inr (.inl hz)));have x6:=a9.out _ v1 _ _ _ x5 (fun g hg=>(h9.out g hg).1) hP;have a0:=aA x6;obtain ⟨q0,q1,q2,qf⟩:=x5.cells;obtain ⟨y6,L3,X3,y8⟩:=RL.gh T2 x6;have cr:=zB _ y8 y6 x;obtain ⟨va,vc,rfl⟩:=h0.len;clear h6 x1 h8 x3 y5 x2 x5 hP x6 y8 y6 h0 h5;generalize t.length=n1 at*;go_wp2_with fail;refine cr.mono ?_;rintro e w4 ⟨vr,rfl,x7,y7⟩;have x4:Hid (Fam w0 w4 (RL (l ++ [dG vr (m.M.refs x).1]) i j q r ⟨m.M,jO m.col x 2,t⟩)):=by
    show Fam _ _ _;rw [RL.app T2];exact a0.out.iK y7 x7
   obtain ⟨ra,rc,rfl⟩:=x7.len;obtain ⟨rn,x9⟩:∃ z,z=(m.M.refs x).1.length:=⟨_,rfl⟩;have y3:=aA x9;have a4:=qU HM.out.hf.ok (x:Int);rw [<-x9] at a4 x4 ⊢;clear cr x7 y7 x9 y2 yf t0 tf a6 q0 q1 q2 qf;go_wp2;go_loopw [8] (fun iv wr=>∃ k:Nat,k<=rn/\iv=.int .i64 k/\Fam w0 wr (RL (l ++ [dG (.slice ra rn rc) (m.M.refs x).1]) i j q r ((⟨m.M,jO m.col x 2,t⟩:Mk).bC ((m.M.refs x).1.take k)))) (fun iv _=>rn - (intOf iv).toNat)
   case atStart=>exact ⟨0,by omega,rfl,x4.out⟩
   case round=>
    clear x4;obtain ⟨k,hk,rfl,hf⟩:=hrel;have HF:=aA hf;clear hf
    by_cases a2:k<rn
    ·have y9:(k:Int)<rn:=by omega
     have c0:(0:Int)<=k:=by omega
     have x8:k<(m.M.refs x).1.length:=by rw [<-y3.out];exact a2
     obtain ⟨b4,o4,rfl,hc⟩:=(HF.out.ints l.length (RL.at T2)).read.at x8;have cs:=iQ wr (T2.app _) HF.out (Mk.Ok.bC _ _ a7.out) (gI (m.M.refs x).1 k);rw [<-lQ x8] at cs;clear x8;generalize gI (m.M.refs x).1 k=y at*;go_wp2_with fail;refine cs.mono ?_;rintro e w5 ⟨rfl,hf⟩;have a1:=aA hf;clear cs hf hc HF;go_wp2;exact ⟨⟨k+1,by omega,by go_num,a1.out⟩,by simp [intOf];omega⟩
    obtain rfl:k=rn:=by omega
    have y9:¬ (k:Int)<(k:Int):=by omega
    have HE:Hid (Fam w0 wr (RL l i j q r (m.dN x))):=by
     have h7:=HF.out;rw [List.take_of_length_le (by have:=y3.out;omega),b3.out,RL.app T2] at h7;exact h7.pop
    go_wp2;exact hR.out _ _ ⟨rfl,HE.out⟩
end
theorem aCg {l:List Int} {x:Int} {k:Nat} (y:k<l.length):bT (l.take (k+1)) x=bT (l.take k) x ++ if gI l k≠x then [gI l k] else []:=by
 unfold bT;rw [bW y];congr 1
 by_cases e:gI l k=x<;>simp [e]
theorem aGp (l:List Int) (x:Int):(bT l x).length<=l.length:=List.length_filter_le _ _
theorem aDT.aJa {w:World} {r q tg tc:Nat} {v:Value} {T:List Int} {h0:Int->Int} {d:List Int} (h:aDT w r q tg tc v T h0 d) {x:Nat} (hx:x<193) (y:Int):aDT (w.setCell ⟨tg,x,none⟩ (.int .i64 y)) r q tg tc v (T.set x y) (jO h0 x y) d:=by
 have hs:Only [tg] w (w.setCell ⟨tg,x,none⟩ (.int .i64 y)):=(Only.refl [tg] w).set (.inl (by simp)) _;refine ⟨h.row.imp fun U z=>hs.row z (by simpa using h.ne),h.tint.setAt x y,by rw [List.length_set];exact h.tl,fun k hk=>?_,h.ints.only hs (fun k hk=>by have:=(h.ne2 k hk).2;simpa using this),h.ne,h.ne2⟩;rw [rX (by rw [h.tl];exact hx)]
 by_cases e:k=x
 ·rw [if_pos e,e,bY]
 rw [if_neg e,bG _ _ (show (k:Int)≠(x:Int) by omega)];exact h.tv k hk
section
variable {w0 w:World} {l:List Asn} {i j q r:Nat} {m:Mk}
theorem aEQ (w:World) (T2:gX l i j) (hf:Fam w0 w (RL l i j q r m)) (x9:m.list.length<=1000000) (x:Int) (hx:1<=x/\x<=192):Calls prog 245 #[.pointer (some ⟨r,0,none⟩),.int .i64 x] w (fun e w'=>e=.returned (.tuple #[])/\Fam w0 w' (RL l i j q r (m.forget x))):=by
 refine aF fun R hR=>?_;obtain ⟨tg,tc,v,T,hg,ht⟩:=RL.mkT T2 hf;obtain ⟨z0,z1,z2,zf⟩:=hg.cells;obtain ⟨y,hy⟩:∃ y:Nat,x=(y:Int):=⟨x.toNat,by omega⟩;subst hy;have x8:y<193:=by omega
 have z9:(0:Int)<=(y:Int):=by omega
 have a0:(y:Int)<193:=by omega
 have a1:¬ (y:Int)<1:=by omega
 have a2:¬ (192:Int)<(y:Int):=by omega
 obtain ⟨t0,tf⟩:=hg.aCm x8;have x1:=hg.aJa x8 0;have d:=aA x1;have HG:=aA hg;have HT:=aA ht;have y7:Hid (Only [tg] w (w.setCell ⟨tg,y,none⟩ (.int .i64 0))):=(Only.refl [tg] w).set (.inl (by simp)) _;have h9:Hid (r<w.heap.size):=by obtain ⟨U,hr⟩:=hg.row;exact hr.lt
 have z3:Hid (tg<w.heap.size):=(hg.tint.own tg rfl).2;have x6:(w.setCell ⟨tg,y,none⟩ (.int .i64 0)).heap.size=w.heap.size:=by simp
 have y8:=aA x6;clear hf hg x1 ht hx x6;go_in;go_wp2_with fail;generalize w.setCell ⟨tg,y,none⟩ (.int .i64 0)=w1 at*;obtain ⟨a,c,hv⟩:=d.out.ints.len;subst hv;obtain ⟨n,hn⟩:∃ z,z=m.list.length:=⟨_,rfl⟩;have HN:=aA hn;have qJ:Hid (∃ U,Row w1 r U [.pointer (some ⟨q,0,none⟩),.slice (some ⟨tg,0,none⟩) 193 tc,.slice a n c]):=by
  have h7:=d.out.row;rw [<-hn] at h7;exact h7
 rw [<-hn] at x9;clear z0 z1 z2 t0 tf hn;go_loopw [4,5] (fun vv iv wr=>∃ k:Nat,k<=n/\iv=.int .i64 k/\aK wr w1.heap.size vv (bT (m.list.take k) y)/\Only [] w1 wr) (fun _ iv _=>n - (intOf iv).toNat)
 case atStart=>exact ⟨0,by omega,rfl,aK.nil _ _,Only.refl _ _⟩
 case round=>
  obtain ⟨k,hk,rfl,hi,ho⟩:=hrel;have hz:wr.cell? ⟨r,2,none⟩=some (.slice a n c)/\wr.frozen? ⟨r,2,none⟩=false:=by
   obtain ⟨U,hr⟩:=qJ.out;exact ⟨(ho.row hr (by simp)).cell 2 rfl,(ho.row hr (by simp)).free 2⟩
  obtain ⟨z2,a4⟩:=hz;have HI:=aA hi;have HO:=aA ho;obtain ⟨va,vc,x7⟩:=hi.len;obtain ⟨vn,h6⟩:∃ z,z=(bT (m.list.take k) (y:Int)).length:=⟨_,rfl⟩;have z8:vn<=1000000:=by
   have h1:=aGp (m.list.take k) (y:Int);rw [List.length_take] at h1;omega
  rw [<-h6] at x7;subst x7;have y9:=aA h6;clear hi ho h6
  by_cases z5:k<n
  ·have y0:(k:Int)<n:=by omega
   have z7:(0:Int)<=k:=by omega
   have h5:k<m.list.length:=by rw [<-HN.out];exact z5
   obtain ⟨b,o,rfl,hc⟩:=(d.out.ints.only HO.out (by simp)).read.at h5;have x4:=aCg (x:=(y:Int)) h5;have h4:=aA x4;clear x4 h5;obtain ⟨z,hz⟩:∃ z,z=gI m.list k:=⟨_,rfl⟩;rw [<-hz] at hc h4;clear hz
   by_cases h8:z=(y:Int)
   ·subst h8;have y4:Hid (aK wr w1.heap.size (.slice va vn vc) (bT (m.list.take (k+1)) (y:Int))):=by
     show aK _ _ _ _;rw [h4.out];simpa using HI.out
    go_wp2;exact ⟨⟨k+1,by omega,by go_num,y4.out,HO.out⟩,by simp [intOf];omega⟩
   have a3:(z != (y:Int))=true:=by simpa using h8
   have y5:Hid (bT (m.list.take (k+1)) (y:Int)=bT (m.list.take k) (y:Int) ++ [z]):=by show _=_;rw [h4.out,if_pos h8]
   have z6:(wr.alloc (.cells #[.int .i64 z] 3)).cell? ⟨r,2,none⟩=some (.slice (some ⟨b,o,none⟩) n c):=((Only.refl [] wr).alloc _).cell z2 (by simp);go_wp2_with (at_builtin;refine bJ rfl _ _ rfl w1.heap.size _ _ rfl (HI.out.alloc (.cells #[.int .i64 z] 3)) wr.heap.size z rfl ?c1 ?c2 ?c3 ?c4)
   case c1=>exact (Row.new wr _ [_]).cell 0 rfl
   case c2=>have:=y9.out;omega
   case c3=>have:=HO.out.size;simp;omega
   case c4=>
    intro v' w2 x2 x3 z4;have y6:Hid (Only [] w1 w2):=oL HO.out HI.out x3;have y3:Hid (aK w2 w1.heap.size v' (bT (m.list.take (k+1)) (y:Int))):=by show aK _ _ _ _;rw [y5.out];exact x2
    clear x2 x3 z4;go_wp2;exact ⟨⟨k+1,by omega,by go_num,y3.out,y6.out⟩,by simp [intOf];omega⟩
  obtain rfl:k=n:=by omega
  have y0:¬ (k:Int)<(k:Int):=by omega
  have y2:Hid (Fam w0 (wr.setCell ⟨r,2,none⟩ (.slice va vn vc)) (RL l i j q r (m.forget (y:Int)))):=by
   have hi:aK wr w1.heap.size (.slice va vn vc) (bT m.list (y:Int)):=by
    have h7:=HI.out;rw [List.take_of_length_le (by have:=HN.out;omega)] at h7;exact h7
   have h0:∀ g,(Value.slice va vn vc).ownBlock=some g->w.heap.size<=g:=fun g hg=>by have:=(hi.own g hg).1;have:=y8.out;omega
   have x5:Only [r] wr (wr.setCell ⟨r,2,none⟩ (.slice va vn vc)):=(Only.refl [r] wr).set (.inl (by simp)) _;have y1:∃ U,Row wr r U [.pointer (some ⟨q,0,none⟩),.slice (some ⟨tg,0,none⟩) 193 tc,.slice a k c]:=qJ.out.imp fun U z=>HO.out.row z (by simp);have hP:=((y7.out.trans HO.out (by simp)).toP (S:=fun z=>z=r\/z=tg\/(Value.slice a m.list.length c).ownBlock=some z) (fun z hz=>.inl (.inr (.inl (by simpa using hz))))).set (p:=⟨r,2,none⟩) (.inl (.inl rfl)) (.slice va vn vc);refine HT.out _ tg tc _ _ _ _ ⟨y1.imp fun U z=>z.set 2 _,(d.out.tint.only HO.out (by simp)).only x5 (fun z hz=>by cases hz;simpa using Ne.symm d.out.ne),d.out.tl,d.out.tv,(hi.base (Nat.zero_le _)).only x5 (fun z hz=>by have:=h0 z hz;have:=h9.out;simp;omega),d.out.ne,fun g hg=>?_⟩ (.inl rfl) (fun g hg=>.inr (h0 g hg)) hP;have h1:=h0 g hg;have h2:=h9.out;have h3:=z3.out;exact ⟨by omega,by omega⟩
  go_wp2_with fail;go_end0;exact hR.out _ _ ⟨rfl,y2.out⟩
theorem aAR (w:World) (T2:gX l i j) (d:Fam w0 w (RL l i j q r m)) (h4:m.list.length<=1000000) (x e0:Int) (hx:e0=0->1<=x/\x<=192):Calls prog 217 #[.pointer (some ⟨r,0,none⟩),.int .i64 x,.int .i64 e0] w (fun e w'=>e=.returned (.tuple #[.int .i64 x,.int .i64 e0])/\Fam w0 w' (RL l i j q r (if e0=0 then m.black x else m))):=by
 refine aF fun R hR=>?_;have HF:=aA d
 by_cases he:e0=0
 ·subst he;rw [if_pos rfl] at hR;have co:=aEQ w T2 d h4 x (hx rfl);obtain ⟨h1,h2⟩:=hx rfl;obtain ⟨y,hy⟩:∃ y:Nat,x=(y:Int):=⟨x.toNat,by omega⟩;subst hy;have h3:y<193:=by omega
  have h8:(0:Int)<=(y:Int):=by omega
  have h9:(y:Int)<193:=by omega
  clear d hx h1 h2;go_in;go_wp2_with fail;refine co.mono ?_;rintro e w1 ⟨rfl,d⟩;obtain ⟨tg,tc,v,T,hg,ht⟩:=RL.mkT T2 d;obtain ⟨z0,z1,z2,zf⟩:=hg.cells;obtain ⟨t0,tf⟩:=hg.aCm h3;have hs:Only [tg] w1 (w1.setCell ⟨tg,y,none⟩ (.int .i64 2)):=(Only.refl [tg] w1).set (.inl (by simp)) _;have h0:jO (m.forget (y:Int)).col (y:Int) 2=jO m.col (y:Int) 2:=by
   funext k
   by_cases e:k=(y:Int)
   ·rw [e,bY,bY]
   rw [bG _ _ e,bG _ _ e];exact bG _ _ e
  have h5:Hid (Fam w0 (w1.setCell ⟨tg,y,none⟩ (.int .i64 2)) (RL l i j q r (m.black (y:Int)))):=by
   have h7:=ht _ tg tc v _ _ _ (hg.aJa h3 2) (.inl rfl) (fun g hg=>.inl hg) (hs.toP (fun z hz=>.inl (.inr (.inl (by simpa using hz)))));rw [h0] at h7;exact h7
  clear co d hg ht hs h0 HF;go_wp2;exact hR.out _ _ ⟨rfl,h5.out⟩
 rw [if_neg he] at hR;have h6:(e0 == 0)=false:=by simpa using he
 clear d hx;go_in;go_wp2;exact hR.out _ _ ⟨rfl,HF.out⟩
theorem zF (w:World) (T2:gX l i j) (d:Fam w0 w (RL l i j q r m)) (hm:m.Ok) (c:Int) (v:Value) (y:List Bool) (hv:aAw w v y) (hl:y.length<=1000000):Calls prog 173 #[.pointer (some ⟨r,0,none⟩),.int .i64 c,v] w (fun e w'=>e=.returned (.tuple #[.int .i64 (m.aH c y).1,.int .i64 (m.aH c y).2.1])/\Fam w0 w' (RL l i j q r (m.aH c y).2.2)):=by
 refine aF fun R hR=>?_;obtain ⟨tg,tc,vv,T,hg⟩:=RL.mk T2 d;obtain ⟨z0,z1,z2,_⟩:=hg.cells;have c1:=d.aDn i (RL.heap T2) (M':=(m.M.aH c y).2.2) (fun hk=>hk.aH c y) (fun L X hr hk=>pK w hr hk c v y hv hl);rw [RL.put T2] at c1;have HM:=aA hm;have z:=m.M.dW c y;have HX:Hid ((m.M.aH c y).2.1=0->1<=(m.M.aH c y).1/\(m.M.aH c y).1<=192):=fun h0=>by
  obtain ⟨_,_,o,ho,_⟩:=z.yes h0;exact (z.ok hm.hf).ok.hr _ o ho
 unfold Mk.aH Mk.made at hR;simp only at hR;clear d hg hm z hv hl;generalize m.M.aH c y=rr at*;obtain ⟨r1,r2,M2⟩:=rr;go_in;go_wp2_with fail;refine c1.mono ?_;rintro e w1 ⟨rfl,d⟩;have c2:=aAR w1 T2 d (by have:=HM.out.len;show m.list.length<=1000000;omega) r1 r2 HX.out;clear c1 d;go_wp2_with fail;refine c2.mono ?_;rintro e w2 ⟨rfl,d⟩;have h1:=aA d;clear c2 d;go_wp2;exact hR.out _ _ ⟨rfl,h1.out⟩
theorem jB (w:World) (d:gX l i j) (z:Fam w0 w (RL l i j q r m)) (hm:m.Ok) (k c n:Int):Calls prog 149 #[.pointer (some ⟨r,0,none⟩),.int .i64 k,.int .i64 c,.int .i64 n] w (fun e w'=>e=.returned (.tuple #[.int .i64 (m.aG k c n).1,.int .i64 (m.aG k c n).2.1])/\Fam w0 w' (RL l i j q r (m.aG k c n).2.2)):=by
 refine aF fun R hR=>?_;obtain ⟨tg,tc,vv,T,hg⟩:=RL.mk d z;obtain ⟨z0,z1,z2,_⟩:=hg.cells;have c1:=z.aDn i (RL.heap d) (M':=(m.M.aG k c n).2.2) (fun hk=>hk.aG k c n) (fun L X hr hk=>rU w hr hk k c n);rw [RL.put d] at c1;have HM:=aA hm;have y:=m.M.fA k c n;have HX:Hid ((m.M.aG k c n).2.1=0->1<=(m.M.aG k c n).1/\(m.M.aG k c n).1<=192):=fun h0=>by
  obtain ⟨_,_,o,ho,_⟩:=y.yes h0;exact (y.ok hm.hf).ok.hr _ o ho
 unfold Mk.aG Mk.made at hR;simp only at hR;clear z hg hm y;generalize m.M.aG k c n=rr at*;obtain ⟨r1,r2,M2⟩:=rr;go_in;go_wp2_with fail;refine c1.mono ?_;rintro e w1 ⟨rfl,z⟩;have c2:=aAR w1 d z (by have:=HM.out.len;show m.list.length<=1000000;omega) r1 r2 HX.out;clear c1 z;go_wp2_with fail;refine c2.mono ?_;rintro e w2 ⟨rfl,z⟩;have h1:=aA z;clear c2 z;go_wp2;exact hR.out _ _ ⟨rfl,h1.out⟩
theorem aEP (w:World) (T2:gX l i j) (z:Fam w0 w (RL l i j q r m)) (hm:m.Ok) (a s y:Int):Calls prog 148 #[.pointer (some ⟨r,0,none⟩),.int .i64 a,.int .i64 s,.int .i64 y] w (fun e w'=>e=.returned (.int .i64 (m.store a s y).1)/\Fam w0 w' (RL l i j q r (m.store a s y).2)):=by
 refine aF fun R hR=>?_;obtain ⟨tg,tc,vv,T,hg⟩:=RL.mk T2 z;obtain ⟨z0,z1,z2,_⟩:=hg.cells;obtain ⟨d,L,X,hp⟩:=RL.gh T2 z;have c1:=uP w hp d a s;have c2:=aFU w hp d a s;have c3:=z.aDn i (RL.heap T2) (M':=(m.M.set a s y).2) (fun d=>d.set a s y) (fun L X hr d=>aFT w hr d a s y);rw [RL.put T2] at c3;have h0:Hid ((m.put (m.M.set a s y).2).Ok):=hm.put (hm.hf.set a s y) (fun k d=>by rw [Hp.lT];exact d);unfold Mk.store at hR;simp only at hR;clear z hg hm hp d;generalize (m.M.isRef a s).1=rf at*;generalize (m.M.isRef a s).2=re at*;generalize (m.M.get a s).1=h1 at*;generalize (m.M.get a s).2=oe at*;generalize (m.M.set a s y).1=se at*;generalize m.put (m.M.set a s y).2=m2 at*;go_in;go_wp2_with fail;refine c1.mono ?_;rintro e _ ⟨rfl,rfl⟩;go_wp2_with fail;refine c2.mono ?_;rintro e _ ⟨rfl,rfl⟩;go_wp2_with fail;refine c3.mono ?_;rintro e w1 ⟨rfl,z⟩;have HF:=aA z;clear c1 c2 c3 z z0 z1 z2
 by_cases hc:se=0/\rf=true
 ·obtain ⟨rfl,rfl⟩:=hc;rw [if_pos ⟨rfl,rfl⟩] at hR;have ca:=iQ w1 T2 HF.out h0.out h1;go_wp2_with fail;refine ca.mono ?_;rintro e w2 ⟨rfl,z⟩;have cb:=iQ w2 T2 z (h0.out.bI h1) y;clear ca z;go_wp2_with fail;refine cb.mono ?_;rintro e w3 ⟨rfl,z⟩;have h2:=aA z;clear cb z;go_wp2;exact hR.out _ _ ⟨rfl,h2.out⟩
 rw [if_neg hc] at hR
 by_cases hs:se=0
 ·subst hs;have h3:rf=false:=by cases rf;rfl;exact absurd ⟨rfl,rfl⟩ hc
  subst h3;clear hc;go_wp2;exact hR.out _ _ ⟨rfl,HF.out⟩
 have h4:(se == 0)=false:=by simpa using hs
 clear hc;go_wp2;exact hR.out _ _ ⟨rfl,HF.out⟩
end
theorem aMm (n:Nat) (hn:n<=1000):∃ C:Array Value,C.toList=List.replicate n (.int .i64 0)/\∀ y:World,(Instr.makeSlice 23 (.int .i64 (n:Int)) (.int .i64 (n:Int))).run prog y=.ok (.slice (some ⟨y.heap.size,0,none⟩) n n) (y.alloc (.cells C 3)):=by
 obtain ⟨i0,d,e,z,h0⟩:=info_parts jV;refine ⟨madeCells (Value.int .i64 0).cells (n*1),by rw [yP],fun y=>?_⟩;rw [run_makeSlice (P:=prog) (w:=y) 23 3 i0 _ Tryz.underlying23 d e .i64 .i64 _ _ (by omega) (by omega) (by rw [z];omega) (by rw [h0];omega) (by omega),z];rfl
section
variable {w0 w:World} {l:List Asn} {i j q r:Nat} {m:Mk}
theorem aGq {l:List Int} {y:Int->Int} {k:Nat} (z:k<l.length):(l.take (k+1)).filter (fun x=>decide (y x=0))=(l.take k).filter (fun x=>decide (y x=0)) ++ if y (gI l k)=0 then [gI l k] else []:=by
 rw [bW z];congr 1
 by_cases e:y (gI l k)=0<;>simp [e]
theorem aHy (w:World) (T2:gX l i j) (hf:Fam w0 w (RL l i j q r m)):Calls prog 223 #[.pointer (some ⟨r,0,none⟩)] w (aNP w m.white):=by
 refine aF fun R hR=>?_;obtain ⟨tg,tc,vv,T,hg⟩:=RL.mk T2 hf;obtain ⟨z0,z1,z2,_⟩:=hg.cells;obtain ⟨hk,L,X,hp⟩:=RL.gh T2 hf;have ch:=aDx w hp hk;have HG:=aA hg;have HK:=aA hk;clear hf hg hp hk;go_in;go_wp2_with fail;refine ch.mono ?_;rintro e w1 ⟨lv,rfl,h8,ho⟩;obtain ⟨la,lc,rfl⟩:=h8.len;have h4:=aA ho;have x8:=aA h8;have x5:m.M.handles.length<=192:=Hp.nS m.M 192;obtain ⟨n,hn⟩:∃ z,z=m.M.handles.length:=⟨_,rfl⟩;have HN:=aA hn;rw [<-hn] at x5 ⊢;clear ho h8 ch hn z0 z1 z2;go_wp2;go_loopw [3,5] (fun vv iv wr=>∃ k:Nat,k<=n/\iv=.int .i64 k/\aK wr w1.heap.size vv ((m.M.handles.take k).filter (fun x=>decide (m.col x=0)))/\Only [] w1 wr) (fun _ iv _=>n - (intOf iv).toNat)
 case atStart=>exact ⟨0,by omega,rfl,aK.nil _ _,Only.refl _ _⟩
 case round=>
  obtain ⟨k,hk,rfl,hi,ho⟩:=hrel;have HI:=aA hi;have HO:=aA ho;obtain ⟨va,vc,x4⟩:=hi.len;obtain ⟨vn,h9⟩:∃ z,z=((m.M.handles.take k).filter (fun x=>decide (m.col x=0))).length:=⟨_,rfl⟩;have y8:vn<=1000000:=by
   have h1:=List.length_filter_le (fun x=>decide (m.col x=0)) (m.M.handles.take k);rw [List.length_take] at h1;omega
  rw [<-h9] at x4;subst x4;have y0:=aA h9;clear hi ho h9
  by_cases y2:k<n
  ·have x6:(k:Int)<n:=by omega
   have y7:(0:Int)<=k:=by omega
   have h5:k<m.M.handles.length:=by rw [<-HN.out];exact y2
   obtain ⟨b,o,rfl,hc⟩:=(x8.out.only HO.out (by simp)).read.at h5;have x2:=HK.out.inR (Hp.yZ h5);have h2:Hid ((m.M.handles.take (k+1)).filter (fun x=>decide (m.col x=0))=(m.M.handles.take k).filter (fun x=>decide (m.col x=0)) ++ if m.col (gI m.M.handles k)=0 then [gI m.M.handles k] else []):=aGq h5;clear h5;obtain ⟨y,hy⟩:∃ y:Nat,gI m.M.handles k=(y:Int):=⟨(gI m.M.handles k).toNat,by omega⟩;rw [hy] at hc h2 x2;have y3:y<193:=by omega
   have y9:(0:Int)<=(y:Int):=by omega
   have z3:(y:Int)<193:=by omega
   have z1:wr.cell? ⟨r,1,none⟩=some (.slice (some ⟨tg,0,none⟩) 193 tc):=HO.out.cell (h4.out.cell HG.out.cells.2.1 (by simp)) (by simp);have t0:=HO.out.cell (h4.out.cell (HG.out.aCm y3).1 (by simp)) (by simp);have y5:Hid (∀ q,Only [] w1 (wr.drewN q)):=fun q=>HO.out.drewN q;clear x2 hy
   by_cases h0:m.col (y:Int)=0
   ·have h6:Hid ((m.M.handles.take (k+1)).filter (fun x=>decide (m.col x=0))=(m.M.handles.take k).filter (fun x=>decide (m.col x=0)) ++ [(y:Int)]):=by show _=_;rw [h2.out,if_pos h0]
    rw [h0] at t0;clear h2 h0;go_wp2_with fail;go_quiet (fail);have y6:(wr.drewN nq).cell? ⟨b,o+k,none⟩=some (.int .i64 (y:Int)):=hc;have h3:Hid (aK (wr.drewN nq) w1.heap.size (.slice va vn vc) ((m.M.handles.take k).filter (fun x=>decide (m.col x=0)))):=HI.out;have d:Hid (Only [] w1 (wr.drewN nq)):=HO.out.drewN nq;clear HI HO hc z1 t0;generalize wr.drewN nq=w2 at*;go_wp2_with (at_builtin;refine bJ rfl _ _ rfl w1.heap.size _ _ rfl (h3.out.alloc (.cells #[.int .i64 (y:Int)] 3)) w2.heap.size (y:Int) rfl ?c1 ?c2 ?c3 ?c4)
    case c1=>exact (Row.new w2 _ [_]).cell 0 rfl
    case c2=>have:=y0.out;omega
    case c3=>have:=d.out.size;simp;omega
    case c4=>
     intro v' w3 x1 x3 y1;have x9:Hid (Only [] w1 w3):=oL d.out h3.out x3;have x7:Hid (aK w3 w1.heap.size v' ((m.M.handles.take (k+1)).filter (fun x=>decide (m.col x=0)))):=by show aK _ _ _ _;rw [h6.out];exact x1
     clear x1 x3 y1;go_wp2;exact ⟨⟨k+1,by omega,by go_num,x7.out,x9.out⟩,by simp [intOf];omega⟩
   have h6:Hid ((m.M.handles.take (k+1)).filter (fun x=>decide (m.col x=0))=(m.M.handles.take k).filter (fun x=>decide (m.col x=0))):=by show _=_;rw [h2.out,if_neg h0];simp
   have y4:(m.col (y:Int) == 0)=false:=by simpa using h0
   clear h2 h0;generalize m.col (y:Int)=cy at t0 y4;go_wp2_with fail;go_quiet (fail);have h3:Hid (aK (wr.drewN nq) w1.heap.size (.slice va vn vc) ((m.M.handles.take (k+1)).filter (fun x=>decide (m.col x=0)))):=by show aK _ _ _ _;rw [h6.out];exact HI.out
   have d:Hid (Only [] w1 (wr.drewN nq)):=HO.out.drewN nq;clear HI HO hc z1 t0;generalize wr.drewN nq=w2 at*;go_wp2;exact ⟨⟨k+1,by omega,by go_num,h3.out,d.out⟩,by simp [intOf];omega⟩
  obtain rfl:k=n:=by omega
  have x6:¬ (k:Int)<(k:Int):=by omega
  have HE:Hid (aK wr w.heap.size (.slice va vn vc) m.white):=by
   have h7:=HI.out;rw [List.take_of_length_le (by have:=HN.out;omega)] at h7;exact h7.base h4.out.size
  have d:Hid (Only [] w wr):=h4.out.trans HO.out (by simp);go_wp2;exact hR.out _ _ ⟨_,rfl,HE.out,d.out⟩
theorem RL.born {M:Hp} (z:l[i]?=some (GH q M)):RL (l ++ [GkA r q (fun _=>0) []]) i l.length q r (Mk.start M)=l ++ [GkA r q (fun _=>0) []]:=by
 have y:i<l.length:=(List.getElem?_eq_some_iff.1 z).1;unfold RL;rw [List.set_append_left _ _ y,show (Mk.start M).M=M from rfl,xI z,List.set_append_right _ _ (by omega),Nat.sub_self];rfl
theorem aAS (w:World) {M:Hp} (hf:Fam w0 w l) (hi:l[i]?=some (GH q M)) (a:Option Addr) (n c:Nat) (y:List Int) (hl:y.length=n) (hn:n<=1000000) (x6:pR w (.slice a n c) y)
  (hr:∀ r w' m',Fam w0 w' (RL (l ++ [GkA r q (fun _=>0) []]) i l.length q r m')->pR w' (.slice a n c) y) (hM:M.OkF) :
  Calls prog 181 #[.pointer (some ⟨q,0,none⟩),.slice a n c] w (fun e w'=>(M.fJ y/\e=.returned (.tuple #[.pointer none,.int .i64 3])/\Fam w0 w' l)\/(¬ M.fJ y/\∃ r,e=.returned (.tuple #[.pointer (some ⟨r,0,none⟩),.int .i64 0])/\Fam w0 w' (RL (l ++ [GkA r q (fun _=>0) []]) i l.length q r ((Mk.start M).bC y)))):=by
 refine aF fun R hR=>?_;have HF:=aA hf;have y8:=aA x6;have HI:=aA hi;have y7:=aA hr;have HL:=aA hl;have y4:=aA hM;obtain ⟨C,hC,x1⟩:=aMm 193 (by omega);have z0:∀ wx:World,(Instr.makeSlice 23 (.int .i64 193) (.int .i64 193)).run prog wx=.ok (.slice (some ⟨wx.heap.size,0,none⟩) 193 193) (wx.alloc (.cells C 3)):=x1;have HC:=aA hC;clear hf x6 hi hr hl hM hC x1;go_in;go_wp2;go_loopw [6] (fun iv wr=>∃ k:Nat,k<=n/\iv=.int .i64 k/\Only [] w wr/\Hid (∀ j,j<k->¬ (gI y j≠0/\(M.ob (gI y j)).isSome=false))) (fun iv _=>n - (intOf iv).toNat)
 case atStart=>exact ⟨0,by omega,rfl,Only.refl _ _,fun j hj=>by omega⟩
 case round=>
  obtain ⟨k,hk,rfl,ho,HB⟩:=hrel;have HO:=aA ho;have x3:=aA (HF.out.aN ho);clear ho
  by_cases y9:k<n
  ·have x8:(k:Int)<n:=by omega
   have z4:(0:Int)<=k:=by omega
   have d:k<y.length:=by rw [HL.out];exact y9
   obtain ⟨b,o,rfl,hc⟩:=(y8.out.only HO.out (by simp)).at d;have h8:Hid (gI y k≠0/\(M.ob (gI y k)).isSome=false->M.fJ y):=fun h=>⟨gI y k,kR.2 ⟨k,d,rfl⟩,h.1,by cases e:M.ob (gI y k);rfl;rw [e] at h;simp at h⟩;have h4:Hid (¬ (gI y k≠0/\(M.ob (gI y k)).isSome=false)->∀ j,j<k+1->¬ (gI y j≠0/\(M.ob (gI y j)).isSome=false)):=fun hd j hj=>by
    by_cases e:j=k
    ·rw [e];exact hd
    exact HB.out j (by omega)
   obtain ⟨x5,L,X,hp⟩:=x3.out.gh i HI.out;have cl:=jP wr hp x5 (gI y k);clear d hp x5
   by_cases h0:gI y k=0
   ·have h5:=aA (h4.out (fun h=>h.1 h0));rw [h0] at hc;clear h8 h4 cl h0;go_wp2;exact ⟨⟨k+1,by omega,by go_num,HO.out,h5.out⟩,by simp [intOf];omega⟩
   have z5:(gI y k != 0)=true:=by simpa using h0
   cases hs:(M.ob (gI y k)).isSome with
   | true=>
    rw [hs] at cl;have h5:=aA (h4.out (fun h=>by have:=h.2;rw [hs] at this;cases this))
    clear h8 h4 hs h0;generalize gI y k=x at*;go_wp2_with fail;refine cl.mono ?_;rintro e w2 ⟨rfl,ho⟩;have y6:Hid (Only [] w w2):=HO.out.trans ho (by simp);clear cl ho hc;go_wp2;exact ⟨⟨k+1,by omega,by go_num,y6.out,h5.out⟩,by simp [intOf];omega⟩
   | false=>
    rw [hs] at cl;have h5:=aA (h8.out ⟨h0,hs⟩);clear h8 h4 hs h0;generalize gI y k=x at*;go_wp2_with fail;refine cl.mono ?_;rintro e w2 ⟨rfl,ho⟩;have y1:=aA (x3.out.aN ho);clear cl ho hc;go_wp2;exact hR.out _ _ (.inl ⟨h5.out,rfl,y1.out⟩)
  obtain rfl:k=n:=by omega
  have x8:¬ (k:Int)<(k:Int):=by omega
  have y5:Hid (¬ M.fJ y):=fun ⟨x,h1,h2,h3⟩=>by
   obtain ⟨j,hj,rfl⟩:=kR.1 h1;exact HB.out j (by have:=HL.out;omega) ⟨h2,by rw [h3];rfl⟩
  have x7:(wr.alloc (.cells C 3)).heap.size=wr.heap.size+1:=by simp
  have h6:aGo wr ((wr.alloc (.cells C 3)).alloc (.cells #[.pointer (some ⟨q,0,none⟩),.slice (some ⟨wr.heap.size,0,none⟩) 193 193,.slice none 0 0] 150)) (GkA (wr.heap.size+1) q (fun _=>0) []):=by
   refine ⟨((Only.refl [] wr).alloc _).alloc _,fun k=>k=wr.heap.size+1\/k=wr.heap.size\/(Value.slice none 0 0).ownBlock=some k,⟨wr.heap.size,193,.slice none 0 0,List.replicate 193 0,⟨⟨150,?_⟩,?_,List.length_replicate,fun k hk=>?_,aK.nil _ _,by omega,fun g hg=>by cases hg⟩,fun k=>Iff.rfl⟩,fun k hk=>?_⟩
   ·have:=Row.new (wr.alloc (.cells C 3)) 150 [.pointer (some ⟨q,0,none⟩),.slice (some ⟨wr.heap.size,0,none⟩) 193 193,.slice none 0 0];rw [x7] at this;exact this
   ·have h1:Row (wr.alloc (.cells C 3)) wr.heap.size 3 (List.replicate 193 (.int .i64 0)):=by rw [<-HC.out];exact Row.new wr 3 C.toList
    have h2:=aK.ofRow (w:=(wr.alloc (.cells C 3)).alloc (.cells #[.pointer (some ⟨q,0,none⟩),.slice (some ⟨wr.heap.size,0,none⟩) 193 193,.slice none 0 0] 150)) (base:=0) (l:=List.replicate 193 0) (cap:=193) (Nat.zero_le _) (h1.alloc _) (by simp) (by simp) (by simp) (by simp [maxLen]);rw [List.length_replicate] at h2;exact h2
   ·unfold gI;rw [List.getElem?_replicate,if_pos hk];rfl
   rcases hk with hk|hk|hk
   ·omega
   ·omega
   cases hk
  have x4:=x3.out.add h6;rw [<-RL.born HI.out] at x4;have x2:=aA x4;have y3:Hid ((Mk.start M).Ok):=Mk.Ok.start y4.out;obtain ⟨r,hr⟩:∃ z,z=wr.heap.size+1:=⟨_,rfl⟩;have z2:=aA hr;rw [<-hr] at x2;clear h6 x4 x7;go_wp2_with fail;rw [<-hr];generalize ((wr.alloc (.cells C 3)).alloc (.cells #[.pointer (some ⟨q,0,none⟩),.slice (some ⟨wr.heap.size,0,none⟩) 193 193,.slice none 0 0] 150))=w4 at*;clear hr z0;go_loopw [8] (fun iv z1=>∃ k2:Nat,k2<=k/\iv=.int .i64 k2/\Fam w0 z1 (RL (l ++ [GkA r q (fun _=>0) []]) i l.length q r ((Mk.start M).bC (y.take k2)))) (fun iv _=>k - (intOf iv).toNat)
  case atStart=>exact ⟨0,by omega,rfl,x2.out⟩
  case round=>
   clear x2;obtain ⟨k2,x5,rfl,hf⟩:=hrel;have h9:=aA hf;clear hf
   by_cases x9:k2<k
   ·have y0:(k2:Int)<k:=by omega
    have z3:(0:Int)<=k2:=by omega
    have d:k2<y.length:=by rw [HL.out];exact x9
    obtain ⟨b,o,rfl,hc⟩:=(y7.out r _ _ h9.out).at d;have cs:=iQ _ (gX.born HI.out) h9.out (Mk.Ok.bC _ _ y3.out) (gI y k2);rw [<-lQ d] at cs;clear d;generalize gI y k2=x at*;go_wp2_with fail;refine cs.mono ?_;rintro e w6 ⟨rfl,hf⟩;have y2:=aA hf;clear cs hf hc h9;go_wp2;exact ⟨⟨k2+1,by omega,by go_num,y2.out⟩,by simp [intOf];omega⟩
   obtain rfl:k2=k:=by omega
   have y0:¬ (k2:Int)<(k2:Int):=by omega
   have HE:Hid (Fam w0 wr (RL (l ++ [GkA r q (fun _=>0) []]) i l.length q r ((Mk.start M).bC y))):=by
    have h7:=h9.out;rw [List.take_of_length_le (by have:=HL.out;omega)] at h7;exact h7
   go_wp2;exact hR.out _ _ (.inr ⟨y5.out,r,rfl,HE.out⟩)
end
end Go.Proofs.YthflghdaejbdkaaGreat
