/- Lemmas of this claim. -/
import Derived.Deep.DeepFit
import Derived.Test.YthflghdaejbdkaaGreatXbMkP
import Derived.Test.YthflghdaejbdkaaGreatXbCyStar
import Derived.Laws.ResultCell
import Derived.StillTailTactics
namespace Go.Proofs.YthflghdaejbdkaaGreat
open _root_.Go.Proofs.Tryz (prog)
open Go.RowKit Go.Maps
set_option maxHeartbeats 6400000
set_option maxRecDepth 100000
set_option linter.unusedVariables false
theorem jT (w:World) {L:Nat->Option Gb} {q:Nat} {M:Hp} {X:GX} (h:bJ w L q M X) (hk:M.Ok) (x:Int):Calls prog 58 #[.pointer (some ⟨q,0,none⟩),.int .i64 x] w (fun e w'=>e=.returned (.bool (M.ob x).isSome)/\Only [] w w'):=by
 refine aF fun R z=>?_;have c:=aDy w h hk x;have he:=aFz M x;clear h hk;generalize (M.type x).1=a1 at*;generalize (M.type x).2.1=a2 at*;generalize (M.type x).2.2.1=a3 at*;rw [he] at c;clear he
 cases hs:(M.ob x).isSome with
 | true=>
  rw [hs] at c z;replace c:Calls prog _ _ _ (fun e w'=>e=.returned (.tuple #[.int .i64 a1,.int .i64 a2,.int .i64 a3,.int .i64 0])/\Only [] w w'):=c;go_in;go_wp2_with fail;go_fit c;rintro e w1 ⟨rfl,y⟩;have d:=aA y;clear c y;go_wp2;exact z.o _ _ ⟨rfl,d.o⟩
 | false=>
  rw [hs] at c z;replace c:Calls prog _ _ _ (fun e w'=>e=.returned (.tuple #[.int .i64 a1,.int .i64 a2,.int .i64 a3,.int .i64 3])/\Only [] w w'):=c;go_in;go_wp2_with fail;go_fit c;rintro e w1 ⟨rfl,y⟩;have d:=aA y;clear c y;go_wp2;exact z.o _ _ ⟨rfl,d.o⟩
section
variable {w0 w:World} {l:List Asn} {i j q r:Nat} {m:Mk}
theorem RL.gh (y:gZ l i j) (z:Fam w0 w (RL l i j q r m)):m.M.Ok/\∃ L X,bJ w L q m.M X:=z.gh i (RL.heap y)
theorem RL.lives (z:gZ l i j) (y:Fam w0 w (RL l i j q r m)) (x:Int):Calls prog 58 #[.pointer (some ⟨q,0,none⟩),.int .i64 x] w (fun e w'=>e=.returned (.bool (m.M.ob x).isSome)/\Fam w0 w' (RL l i j q r m)):=by
 obtain ⟨hk,L,X,hg⟩:=RL.gh z y;exact (jT w hg hk x).mono fun e w' ⟨d,h2⟩=>⟨d,y.aK h2⟩
theorem aEe.cells {tg e:Nat} {v:Value} {T:List Int} {d:Int->Int} {y:List Int} (h:aEe w r q tg e v T d y):w.cell? ⟨r,0,none⟩=some (.pointer (some ⟨q,0,none⟩))/\w.cell? ⟨r,1,none⟩=some (.slice (some ⟨tg,0,none⟩) 193 e)/\w.cell? ⟨r,2,none⟩=some v/\∀ k,w.frozen? ⟨r,k,none⟩=false:=by
 obtain ⟨U,z⟩:=h.row;exact ⟨z.cell 0 rfl,z.cell 1 rfl,z.cell 2 rfl,fun k=>z.free k⟩
theorem aEe.aCB {tg tc:Nat} {v:Value} {T:List Int} {z:Int->Int} {d:List Int} (h:aEe w r q tg tc v T z d) {y:Nat} (hy:y<193):w.cell? ⟨tg,y,none⟩=some (.int .i64 (z y))/\w.frozen? ⟨tg,y,none⟩=false:=by
 obtain ⟨_,_,cs,hr,_⟩:=h.tint.row;refine ⟨?_,hr.free y⟩;rcases h.tint.form with ⟨e,_⟩|⟨g,cap,e,_,_,_,hc⟩
 ·cases e
 simp only [Value.slice.injEq,Option.some.injEq,Addr.mk.injEq] at e;obtain ⟨⟨rfl,_⟩,_,_⟩:=e;rw [<-h.tv y hy];exact hc y (by rw [h.tl];exact hy)
theorem iU (w:World) (T2:gZ l i j) (hf:Fam w0 w (RL l i j q r m)) (hm:m.Ok) (x:Int):Calls prog 159 #[.pointer (some ⟨r,0,none⟩),.int .i64 x] w (fun e w'=>e=.returned (.tuple #[])/\Fam w0 w' (RL l i j q r (m.bG x))):=by
 refine aF fun R hR=>?_;obtain ⟨tg,tc,v,T,hg⟩:=RL.mk T2 hf;obtain ⟨z0,_,_,_⟩:=hg.cells;have HF:=aA hf;have HM:=aA hm
 by_cases x2:x=0
 ·have h0:m.bG x=m:=by unfold Mk.bG;rw [if_neg (fun h=>(Mk.jV.1 h).1 x2)]
  rw [h0] at hR;subst x2;clear hf hm hg h0;go_in;go_wp2_with fail;go_end0;exact hR.o _ _ ⟨rfl,HF.o⟩
 have z8:(x != 0)=true:=by simpa using x2
 have c:=RL.lives T2 hf x;clear hf hm hg;go_in;go_wp2_with fail;go_fit c;rintro e w1 ⟨rfl,hf⟩;have x7:=aA hf;obtain ⟨tg,tc,v,T,hg,ht⟩:=RL.mkT T2 hf;have HT:=aA ht;have HG:=aA hg;obtain ⟨z0,z1,z2,zf⟩:=hg.cells;clear c hf hg HF ht
 cases hs:(m.M.ob x).isSome with
 | false=>
  have h0:m.bG x=m:=by unfold Mk.bG;rw [if_neg (fun h=>by have:=(Mk.jV.1 h).2.1;rw [hs] at this;cases this)]
  rw [h0] at hR;clear h0 hs;go_wp2_with fail;go_end0;exact hR.o _ _ ⟨rfl,x7.o⟩
 | true=>
  obtain ⟨h1,h2⟩:=HM.o.hf.ok.inR hs;obtain ⟨y,hy⟩:∃ y:Nat,x=(y:Int):=⟨x.toNat,by omega⟩;subst hy;have y5:y<193:=by omega
  have z9:(0:Int)<=(y:Int):=by omega
  have a0:(y:Int)<193:=by omega
  obtain ⟨t0,tf⟩:=HG.o.aCB y5
  by_cases hc:m.col (y:Int)=0
  ·have h0:m.bG (y:Int)=⟨m.M,jS m.col y 1,m.list ++ [(y:Int)]⟩:=by unfold Mk.bG;rw [if_pos (Mk.jV.2 ⟨x2,hs,hc⟩)]
   rw [h0] at hR;rw [hc] at t0;clear h0 hs hc h1 h2;have h4:Hid (Only [tg] w1 (w1.setCell ⟨tg,y,none⟩ (.int .i64 1))):=(Only.refl [tg] w1).set (.inl (by simp)) _;have h9:=HG.o.ne;have x8:=aA h9;have y7:Hid (aN (w1.setCell ⟨tg,y,none⟩ (.int .i64 1)) 0 v m.list):=HG.o.ints.only h4.o (fun k hk=>by have:=(HG.o.ne2 k hk).2;simpa using this);have z6:Hid (aN (w1.setCell ⟨tg,y,none⟩ (.int .i64 1)) 0 (.slice (some ⟨tg,0,none⟩) 193 tc) (T.set y 1)):=HG.o.tint.setAt y 1;have y0:Hid ((T.set y 1).length=193/\∀ k:Nat,k<193->gI (T.set y 1) k=jS m.col (y:Int) 1 k):=⟨by rw [List.length_set];exact HG.o.tl,fun k hk=>by
    rw [mX (by rw [HG.o.tl];exact y5)]
    by_cases e:k=y
    ·rw [if_pos e,e,cO]
    rw [if_neg e,bM _ _ (show (k:Int)≠(y:Int) by omega)];exact HG.o.tv k hk⟩
   have z4:Hid (∃ U,Row (w1.setCell ⟨tg,y,none⟩ (.int .i64 1)) r U [.pointer (some ⟨q,0,none⟩),.slice (some ⟨tg,0,none⟩) 193 tc,v]):=HG.o.row.imp fun U x=>h4.o.row x (by simpa using h9);have a1:(w1.setCell ⟨tg,y,none⟩ (.int .i64 1)).cell? ⟨r,2,none⟩=some v:=h4.o.cell z2 (by simpa using h9);have y8:=aA HM.o.len;have h5:=aA HG.o.ne2;have y3:r<w1.heap.size:=by obtain ⟨U,hr⟩:=HG.o.row;exact hr.lt
   have y9:=aA y3;have y4:tg<w1.heap.size:=(HG.o.tint.own tg rfl).2;have z5:=aA y4;have x9:Hid ((w1.setCell ⟨tg,y,none⟩ (.int .i64 1)).heap.size=w1.heap.size):=by show _=_;simp
   clear h9 y3 y4;go_wp2_with (at_builtin;refine bH rfl _ _ rfl 0 _ _ rfl (y7.o.alloc _) w1.heap.size (y:Int) rfl ?c1 ?c2 ?c3 ?c4)
   case c1=>
    have h7:=(Row.new (w1.setCell ⟨tg,y,none⟩ (.int .i64 1)) 3 [.int .i64 (y:Int)]).cell 0 rfl;rw [x9.o] at h7;exact h7
   case c2=>have:=y8.o;omega
   case c3=>simp
   case c4=>
    intro v' w3 x4 x1 y2;obtain ⟨va,vc,rfl⟩:=x4.len;generalize w1.setCell ⟨tg,y,none⟩ (.int .i64 1)=w2 at*;have x3:r∉v.ownBlock.toList:=fun d=>by
     cases e:v.ownBlock with
     | none=>rw [e] at d;simp at d
     | some g=>rw [e] at d;simp at d;exact (h5.o g e).1 d.symm
    have y1:tg∉v.ownBlock.toList:=fun d=>by
     cases e:v.ownBlock with
     | none=>rw [e] at d;simp at d
     | some g=>rw [e] at d;simp at d;exact (h5.o g e).2 d.symm
    have h3:∃ U,Row w3 r U [.pointer (some ⟨q,0,none⟩),.slice (some ⟨tg,0,none⟩) 193 tc,v]:=z4.o.imp fun U x=>x1.row (x.alloc _) x3;have x6:w3.cell? ⟨r,2,none⟩=some v/\w3.frozen? ⟨r,2,none⟩=false:=by
     obtain ⟨U,x⟩:=h3;exact ⟨x.cell 2 rfl,x.free 2⟩
    obtain ⟨z3,a2⟩:=x6;have h8:∀ g,(Value.slice va (m.list ++ [(y:Int)]).length vc).ownBlock=some g->v.ownBlock=some g\/w2.heap.size<=g:=fun g hg=>by
     rcases y2 with e|e
     ·exact .inl (e.symm.trans hg)
     right;rw [e] at hg;simp at hg;have:=x9.o;omega
    have h6:∀ g,(Value.slice va (m.list ++ [(y:Int)]).length vc).ownBlock=some g->g≠r/\g≠tg:=fun g hg=>by
     rcases h8 g hg with e|e
     ·exact h5.o g e
     have q1:=h4.o.size;have q2:=y9.o;have q3:=z5.o;exact ⟨by omega,by omega⟩
    have x5:Only [r] w3 (w3.setCell ⟨r,2,none⟩ (Value.slice va (m.list ++ [(y:Int)]).length vc)):=(Only.refl [r] w3).set (.inl (by simp)) _;have hP:aI (fun k=>k=r\/k=tg\/v.ownBlock=some k) w1 (w3.setCell ⟨r,2,none⟩ (Value.slice va (m.list ++ [(y:Int)]).length vc)):=by
     have p1:aI (fun k=>k=r\/k=tg\/v.ownBlock=some k) w1 (w2.alloc (.cells #[.int .i64 (y:Int)] 3)):=(h4.o.toP (fun z hz=>.inl (.inr (.inl (by simpa using hz))))).alloc _;refine (p1.trans (x1.toP (S:=fun k=>v.ownBlock=some k) (fun z hz=>.inl (by
      cases e:v.ownBlock with
      | none=>rw [e] at hz;simp at hz
      | some g=>rw [e] at hz;simp at hz;rw [hz]))) (fun z hz=>.inl (.inr (.inr hz)))).set (.inl (.inl rfl)) _
    have y6:Hid (Fam w0 (w3.setCell ⟨r,2,none⟩ (Value.slice va (m.list ++ [(y:Int)]).length vc)) (RL l i j q r ⟨m.M,jS m.col y 1,m.list ++ [(y:Int)]⟩)):=
     HT.o _ tg tc _ _ _ _ ⟨h3.imp fun U y=>y.set 2 _,((z6.o.alloc _).only x1 (fun k hk=>by cases hk;exact y1)).only x5 (fun k hk=>by cases hk;simpa using Ne.symm x8.o),y0.o.1,y0.o.2,x4.only x5 (fun k hk=>by have:=(h6 k hk).1;simpa using this),x8.o,h6⟩ (.inl rfl)
      (fun g hg=>(h8 g hg).imp id (fun y=>Nat.le_trans h4.o.size y)) hP
    generalize (m.list ++ [(y:Int)]).length=qn at*;clear x4 x1 y2 x3 y1 h3 h8 h6 x5 hP;go_wp2_with fail;go_end0;exact hR.o _ _ ⟨rfl,y6.o⟩
  have h0:m.bG (y:Int)=m:=by unfold Mk.bG;rw [if_neg (fun h=>hc (Mk.jV.1 h).2.2)]
  rw [h0] at hR;have z7:(m.col (y:Int) == 0)=false:=by simpa using hc
  clear h0 hs h1 h2;go_wp2_with fail;go_end0;exact hR.o _ _ ⟨rfl,x7.o⟩
end
section
variable {w0 w:World} {l:List Asn} {i j q r:Nat} {m:Mk}
theorem aKq (w:World) (T2:gZ l i j) (hf:Fam w0 w (RL l i j q r m)):Calls prog 157 #[.pointer (some ⟨r,0,none⟩)] w (aO w (.tuple #[.int .i64 m.next.1,.int .i64 m.next.2])):=by
 refine aF fun R z=>?_;obtain ⟨tg,tc,v,T,hg⟩:=RL.mk T2 hf;obtain ⟨z0,z1,d,_⟩:=hg.cells;have y:=hg.ints;clear hf hg;unfold Mk.next at z
 cases e:m.list with
 | nil=>
  rw [e] at y z;obtain ⟨a,c,rfl⟩:=y.len;clear y;replace d:w.cell? ⟨r,2,none⟩=some (.slice a 0 c):=d;go_in;go_wp2;exact z.o _ _ ⟨rfl,rfl⟩
 | cons x t=>
  rw [e] at y z;obtain ⟨a,c,rfl⟩:=y.len;obtain ⟨b,o,rfl,hc⟩:=y.read.at (k:=0) (by simp);rw [Nat.add_zero] at hc;replace hc:w.cell? ⟨b,o,none⟩=some (.int .i64 x):=hc;replace d:w.cell? ⟨r,2,none⟩=some (.slice (some ⟨b,o,none⟩) (t.length+1) c):=d;generalize t.length=n at*;clear y;have h0:((n:Int)+1 == 0)=false:=by rw [beq_eq_false_iff_ne];omega
  have h1:(0:Int)<(n:Int)+1:=by omega
  go_in;go_wp2;exact z.o _ _ ⟨rfl,rfl⟩
theorem kF (w:World) (T2:gZ l i j) (hf:Fam w0 w (RL l i j q r m)):Calls prog 71 #[.pointer (some ⟨r,0,none⟩)] w (aO w (.bool (decide (m.list=[])))):=by
 refine aF fun R y=>?_;obtain ⟨tg,tc,v,T,hg⟩:=RL.mk T2 hf;obtain ⟨z0,z1,d,_⟩:=hg.cells;have z:=hg.ints;clear hf hg
 cases e:m.list with
 | nil=>
  rw [e] at z y;obtain ⟨a,c,rfl⟩:=z.len;clear z;replace d:w.cell? ⟨r,2,none⟩=some (.slice a 0 c):=d;go_in;go_wp2;exact y.o _ _ ⟨rfl,rfl⟩
 | cons x t=>
  rw [e] at z y;obtain ⟨a,c,rfl⟩:=z.len;clear z;replace d:w.cell? ⟨r,2,none⟩=some (.slice a (t.length+1) c):=d;replace y:Hid (∀ e w',aO w (.bool false) e w'->R e w'):=y;generalize t.length=n at*;have h0:((n:Int)+1 == 0)=false:=by rw [beq_eq_false_iff_ne];omega
  go_in;go_wp2;exact y.o _ _ ⟨rfl,rfl⟩
theorem aBe (w:World) (T2:gZ l i j) (hf:Fam w0 w (RL l i j q r m)) (x:Int):Calls prog 216 #[.pointer (some ⟨r,0,none⟩),.int .i64 x] w (fun e w'=>e=.returned (.tuple #[.int .i64 (m.color x).1,.int .i64 (m.color x).2])/\Only [] w w'):=by
 refine aF fun R hR=>?_;obtain ⟨tg,tc,v,T,hg⟩:=RL.mk T2 hf;obtain ⟨z0,z1,z2,_⟩:=hg.cells;obtain ⟨hk,L,X,hp⟩:=RL.gh T2 hf;have d:=jT w hp hk x;have HG:=aA hg;have HK:=aA hk;unfold Mk.color at hR;clear hf hg hp hk
 cases hs:(m.M.ob x).isSome with
 | true=>
  have h0:=HK.o.inR hs;obtain ⟨y,hy⟩:∃ y:Nat,x=(y:Int):=⟨x.toNat,by omega⟩;subst hy;have h3:y<193:=by omega
  have h4:(0:Int)<=(y:Int):=by omega
  have h5:(y:Int)<193:=by omega
  rw [hs] at d hR;clear h0;go_in;go_wp2_with fail;go_fit d;rintro e w1 ⟨rfl,z⟩;have HO:=aA z;have h1:=z.cell (HG.o.aCB h3).1 (by simp);have h2:=z.cell z1 (by simp);clear d z;go_wp2;exact hR.o _ _ ⟨rfl,HO.o⟩
 | false=>
  rw [hs] at d hR;go_in;go_wp2_with fail;go_fit d;rintro e w1 ⟨rfl,z⟩;have HO:=aA z;clear d z;go_wp2;exact hR.o _ _ ⟨rfl,HO.o⟩
theorem aBd (w:World) (T2:gZ l i j) (y:Fam w0 w (RL l i j q r m)) (hm:m.Ok) (x:Int):Calls prog 150 #[.pointer (some ⟨r,0,none⟩),.int .i64 x] w (fun e w'=>e=.returned (.int .i64 (m.jX x))/\Fam w0 w' (RL l i j q r (m.bG x))):=by
 refine aF fun R hR=>?_;obtain ⟨tg,tc,v,T,hg⟩:=RL.mk T2 y;obtain ⟨z0,z1,z2,_⟩:=hg.cells;have HF:=aA y;have HM:=aA hm
 by_cases d:x=0
 ·have he:m.jX x=0:=by unfold Mk.jX;rw [if_neg (fun h=>h.1 d)]
  rw [he] at hR;have cs:=iU w T2 y hm x;clear y hg hm he;subst d;go_in;go_wp2_with fail;go_fit cs;rintro e w1 ⟨rfl,y⟩;have z:=aA y;clear y cs;go_wp2;exact hR.o _ _ ⟨rfl,z.o⟩
 have h1:(x != 0)=true:=by simpa using d
 have hu:=RL.lives T2 y x
 cases hs:(m.M.ob x).isSome with
 | true=>
  have he:m.jX x=0:=by unfold Mk.jX;rw [if_neg (fun h=>by have:=h.2;rw [hs] at this;cases this)]
  rw [he] at hR;rw [hs] at hu;clear y hg hm he;go_in;go_wp2_with fail;go_fit hu;rintro e w1 ⟨rfl,y⟩;have cs:=iU w1 T2 y HM.o x;clear y hu;go_wp2_with fail;go_fit cs;rintro e w2 ⟨rfl,y⟩;have z:=aA y;clear y cs;go_wp2;exact hR.o _ _ ⟨rfl,z.o⟩
 | false=>
  have he:m.jX x=3:=by unfold Mk.jX;rw [if_pos ⟨d,hs⟩]
  have h0:m.bG x=m:=by unfold Mk.bG;rw [if_neg (fun h=>by have:=(Mk.jV.1 h).2.1;rw [hs] at this;cases this)]
  rw [he,h0] at hR;rw [hs] at hu;clear y hg hm he h0;go_in;go_wp2_with fail;go_fit hu;rintro e w1 ⟨rfl,y⟩;have z:=aA y;clear y hu;go_wp2;exact hR.o _ _ ⟨rfl,z.o⟩
end
theorem RL.app {l:List Asn} {i j q r:Nat} {m:Mk} (h:gZ l i j) (A:Asn):RL (l ++ [A]) i j q r m=RL l i j q r m ++ [A]:=by
 unfold RL;rw [List.set_append_left _ _ h.hi,List.set_append_left _ _ (by rw [List.length_set];exact h.hj)]
theorem RL.at {l:List Asn} {i j q r:Nat} {m:Mk} {A:Asn} (h:gZ l i j):(RL (l ++ [A]) i j q r m)[l.length]?=some A:=by
 rw [RL.app h];have:(RL l i j q r m).length=l.length:=by unfold RL;simp
 rw [<-this];simp
section
variable {w0 w:World} {l:List Asn} {i j q r:Nat} {m:Mk}
theorem aDz (w:World) (T2:gZ l i j) (hf:Fam w0 w (RL l i j q r m)) (hm:m.Ok):Calls prog 72 #[.pointer (some ⟨r,0,none⟩)] w (fun e w'=>e=.returned (.tuple #[.int .i64 m.step.1,.int .i64 m.step.2.1])/\Fam w0 w' (RL l i j q r m.step.2.2)):=by
 refine aF fun R hR=>?_;have cn:=aKq w T2 hf;have a3:m.next=(m.step.1,m.step.2.1):=by unfold Mk.next Mk.step;cases m.list<;>rfl
 rw [a3] at cn
 cases e:m.list with
 | nil=>
  have hs:m.step=(0,3,m):=by unfold Mk.step;rw [e]
  rw [hs] at cn hR;have HF:=aA hf;clear hf hm a3 hs e;go_in;go_wp2_with fail;go_fit cn;rintro e _ ⟨rfl,rfl⟩;go_wp2;exact hR.o _ _ ⟨rfl,HF.o⟩
 | cons x0 t=>
  have hs:m.step=(x0,0,m.dR x0):=by unfold Mk.step;rw [e]
  rw [hs] at cn hR;have b7:=hm.inR (x:=x0) (by rw [e];simp);obtain ⟨x,hx⟩:∃ x:Nat,x0=(x:Int):=⟨x0.toNat,by omega⟩;subst hx;obtain ⟨tg,tc,v,T,hg,ht⟩:=RL.mkT T2 hf;have HM:=aA hm;obtain ⟨z0,z1,z2,zf⟩:=hg.cells;have hi:=hg.ints;rw [e] at hi;obtain ⟨a,c,rfl⟩:=hi.len;obtain ⟨b,o,rfl,hc⟩:=hi.read.at (k:=0) (by simp);replace z2:w.cell? ⟨r,2,none⟩=some (.slice (some ⟨b,o,none⟩) (t.length+1) c):=z2;have z7:t.length+1<=c:=by
   rcases hi.form with ⟨h1,_⟩|⟨g,cap,h1,_,_,h3,_⟩
   ·cases h1
   simp only [Value.slice.injEq] at h1;obtain ⟨_,_,rfl⟩:=h1;exact h3
  have a8:Hid (∀ k,k<t.length->w.cell? ⟨b,o+(k+1),none⟩=some (.int .i64 (gI t k))):=fun k hk=>by
   obtain ⟨b2,o2,e2,h4⟩:=hi.read.at (k:=k+1) (by simp;omega)
   cases e2
   rw [h4];simp [gI]
  have b8:Hid (t.length<=192):=by have:=hm.len;rw [e] at this;simp at this;show _<=_;omega
  obtain ⟨z8,z9⟩:=hm.rest e;have a7:=aA z8;have b1:=aA z9;have z4:Hid (x<193):=by show _<_;omega
  have z3:Hid (r<w.heap.size):=by obtain ⟨U,hr⟩:=hg.row;exact hr.lt
  have z6:Hid (tg<w.heap.size):=(hg.tint.own tg rfl).2;have z5:Hid (∃ U,Row w r U [.pointer (some ⟨q,0,none⟩),.slice (some ⟨tg,0,none⟩) 193 tc,.slice (some ⟨b,o,none⟩) (t.length+1) c]):=hg.row;have a9:Hid (∀ (w':World) (v':Value) (T':List Int) (c:Int->Int) (t:List Int),aEe w' r q tg tc v' T' c t->(∀ g,v'.ownBlock=some g->w.heap.size<=g)->aI (fun k=>k=r\/k=tg\/some b=some k) w w'->Fam w0 w' (RL l i j q r ⟨m.M,c,t⟩)):=fun w' v' T' c t h1 h2 h3=>ht w' tg tc v' T' c t h1 (.inl rfl) (fun g hg=>.inr (h2 g hg)) h3;have b3:=aA hg.tint;have y1:=aA hg.tl;have b0:=aA hg.tv;have y0:=aA hg.ne;have c9:(0:Int)<=(x:Int):=by omega
  have d0:(x:Int)<193:=by omega
  clear hf hm a3 hs e hg ht hi hc z8 z9 b7
  by_cases b9:c=1
  ·subst b9;have a5:t.length=0:=by omega
   have y4:Hid (t.length=0):=a5;rw [a5] at z2 z5;replace z2:w.cell? ⟨r,2,none⟩=some (.slice (some ⟨b,o,none⟩) 1 1):=z2;clear z7 a5;go_in;go_wp2_with fail;go_fit cn;rintro e _ ⟨rfl,rfl⟩;go_wp2_with (at_builtin;refine gW rfl _ _ rfl w.heap.size _ [] rfl (aN.nil _ _) ⟨b,o,none⟩ 0 _ t rfl ?c1 ?c2 ?c3 ?c4 ?c5)
   case c1=>exact y4.o
   case c2=>
    intro k u hu;have hk:k<t.length:=(List.getElem?_eq_some_iff.1 hu).1;have h7:=a8.o k hk;have:=y4.o;omega
   case c3=>simp
   case c4=>simp
   case c5=>
    intro v1 d h0 h5 _ _;replace h0:aN d w.heap.size v1 t:=h0;replace h5:Only [] w d:=h5;have b5:=aA h0;have b6:=aA h5;have h6:∃ U,Row d r U [.pointer (some ⟨q,0,none⟩),.slice (some ⟨tg,0,none⟩) 193 tc,.slice (some ⟨b,o,none⟩) (0+1) 1]:=z5.o.imp fun U x=>h5.row x (by simp);have hz:d.cell? ⟨r,2,none⟩=some (.slice (some ⟨b,o,none⟩) (0+1) 1)/\d.frozen? ⟨r,2,none⟩=false:=by
     obtain ⟨U,x⟩:=h6;exact ⟨x.cell 2 rfl,x.free 2⟩
    obtain ⟨y2,yf⟩:=hz;have h9:Hid (∀ g,v1.ownBlock=some g->w.heap.size<=g/\g<d.heap.size):=fun g hg=>h0.own g hg;have x1:Only [r] d (d.setCell ⟨r,2,none⟩ v1):=(Only.refl [r] d).set (.inl (by simp)) _;have h8:∃ U,Row (d.setCell ⟨r,2,none⟩ v1) r U [.pointer (some ⟨q,0,none⟩),.slice (some ⟨tg,0,none⟩) 193 tc,v1]:=h6.imp fun U y=>y.set 2 _;have x3:aN (d.setCell ⟨r,2,none⟩ v1) 0 (.slice (some ⟨tg,0,none⟩) 193 tc) T:=(b3.o.only h5 (by simp)).only x1 (fun k hk=>by cases hk;simpa using Ne.symm y0.o);have y5:aN (d.setCell ⟨r,2,none⟩ v1) 0 v1 t:=(h0.base (Nat.zero_le _)).only x1 (fun k hk=>by have:=h9.o k hk;have:=z3.o;simp;omega);have t0:(d.setCell ⟨r,2,none⟩ v1).frozen? ⟨tg,x,none⟩=false/\∃ z,(d.setCell ⟨r,2,none⟩ v1).cell? ⟨tg,x,none⟩=some z:=by
     obtain ⟨_,_,cs,hr,_⟩:=x3.row;refine ⟨hr.free x,?_⟩;rcases x3.form with ⟨e,_⟩|⟨g,cap,e,_,_,_,hc⟩
     ·cases e
     simp only [Value.slice.injEq,Option.some.injEq,Addr.mk.injEq] at e;obtain ⟨⟨rfl,_⟩,_,_⟩:=e;exact ⟨_,hc x (by rw [y1.o];exact z4.o)⟩
    obtain ⟨tf,tz,t0⟩:=t0;have a6:(d.setCell ⟨r,2,none⟩ v1).cell? ⟨r,1,none⟩=some (.slice (some ⟨tg,0,none⟩) 193 tc):=by
     obtain ⟨U,x⟩:=h8;exact x.cell 1 rfl
    have x2:Only [tg] (d.setCell ⟨r,2,none⟩ v1) ((d.setCell ⟨r,2,none⟩ v1).setCell ⟨tg,x,none⟩ (.int .i64 2)):=(Only.refl [tg] _).set (.inl (by simp)) _;have x5:aEe ((d.setCell ⟨r,2,none⟩ v1).setCell ⟨tg,x,none⟩ (.int .i64 2)) r q tg tc v1 (T.set x 2) (jS m.col x 2) t:=⟨h8.imp fun U y=>x2.row y (by simpa using y0.o),x3.setAt x 2,by rw [List.length_set];exact y1.o,fun k hk=>by
     rw [mX (by rw [y1.o];exact z4.o)]
     by_cases e:k=x
     ·rw [if_pos e,e,cO]
     rw [if_neg e,bM _ _ (show (k:Int)≠(x:Int) by omega)];exact b0.o k hk,y5.only x2 (fun k hk=>by have:=h9.o k hk;have:=z6.o;simp;omega),y0.o,fun g hg=>by have:=h9.o g hg;have:=z3.o;have:=z6.o;exact ⟨by omega,by omega⟩⟩
    have hP:aI (fun k=>k=r\/k=tg\/some b=some k) w ((d.setCell ⟨r,2,none⟩ v1).setCell ⟨tg,x,none⟩ (.int .i64 2)):=((h5.vU (S:=fun k=>k=r\/k=tg\/some b=some k)).trans (x1.toP (S:=fun k=>k=r) (fun z hz=>.inl (by simpa using hz))) (fun z hz=>.inl (.inl hz))).trans (x2.toP (S:=fun k=>k=tg) (fun z hz=>.inl (by simpa using hz))) (fun z hz=>.inl (.inr (.inl hz)));have x6:=a9.o _ v1 _ _ _ x5 (fun g hg=>(h9.o g hg).1) hP;have a0:=aA x6;obtain ⟨q0,q1,q2,qf⟩:=x5.cells;obtain ⟨y6,L3,X3,y8⟩:=RL.gh T2 x6;have cr:=zL _ y8 y6 x;obtain ⟨va,vc,rfl⟩:=h0.len;clear h6 x1 h8 x3 y5 x2 x5 hP x6 y8 y6 h0 h5;generalize t.length=n1 at*;go_wp2_with fail;go_fit cr;rintro e w4 ⟨vr,rfl,x7,y7⟩;have x4:Hid (Fam w0 w4 (RL (l ++ [bT vr (m.M.refs x).1]) i j q r ⟨m.M,jS m.col x 2,t⟩)):=by
     show Fam _ _ _;rw [RL.app T2];exact a0.o.gY y7 x7
    obtain ⟨ra,rc,rfl⟩:=x7.len;obtain ⟨rn,x9⟩:∃ z,z=(m.M.refs x).1.length:=⟨_,rfl⟩;have y3:=aA x9;have a4:=rF HM.o.hf.ok (x:Int);rw [<-x9] at a4 x4 ⊢;clear cr x7 y7 x9 y2 yf t0 tf a6 q0 q1 q2 qf;go_wp2;go_loopw [8] (fun iv wr=>∃ k:Nat,k<=rn/\iv=.int .i64 k/\Fam w0 wr (RL (l ++ [bT (.slice ra rn rc) (m.M.refs x).1]) i j q r ((⟨m.M,jS m.col x 2,t⟩:Mk).aY ((m.M.refs x).1.take k)))) (fun iv _=>rn - (intOf iv).toNat)
    case atStart=>exact ⟨0,by omega,rfl,x4.o⟩
    case round=>
     clear x4;obtain ⟨k,hk,rfl,hf⟩:=hrel;have HF:=aA hf;clear hf
     by_cases a2:k<rn
     ·have y9:(k:Int)<rn:=by omega
      have c0:(0:Int)<=k:=by omega
      have x8:k<(m.M.refs x).1.length:=by rw [<-y3.o];exact a2
      obtain ⟨b4,o4,rfl,hc⟩:=(HF.o.ints l.length (RL.at T2)).read.at x8;have cs:=iU wr (T2.app _) HF.o (Mk.Ok.aY _ _ a7.o) (gI (m.M.refs x).1 k);rw [<-lY x8] at cs;clear x8;generalize gI (m.M.refs x).1 k=y at*;go_wp2_with fail;go_fit cs;rintro e w5 ⟨rfl,hf⟩;have a1:=aA hf;clear cs hf hc HF;go_wp2;exact ⟨⟨k+1,by omega,by go_num,a1.o⟩,by simp [intOf];omega⟩
     obtain rfl:k=rn:=by omega
     have y9:¬ (k:Int)<(k:Int):=by omega
     have HE:Hid (Fam w0 wr (RL l i j q r (m.dR x))):=by
      have h7:=HF.o;rw [List.take_of_length_le (by have:=y3.o;omega),b1.o,RL.app T2] at h7;exact h7.pop
     go_wp2;exact hR.o _ _ ⟨rfl,HE.o⟩
  have c6:1<c:=by omega
  obtain ⟨n,hn⟩:∃ z,z=t.length:=⟨_,rfl⟩;have y4:Hid (t.length=n):=hn.symm;rw [<-hn] at z2 z5 z7;have c7:(1:Int)<=((n+1:Nat):Int):=by omega
  have c8:((n+1:Nat):Int)<=c:=by omega
  clear hn;go_in;go_wp2_with fail;go_fit cn;rintro e _ ⟨rfl,rfl⟩;go_wp2_with (at_builtin;refine gW rfl _ _ rfl w.heap.size _ [] rfl (aN.nil _ _) ⟨b,o+1,none⟩ n _ t rfl ?c1 ?c2 ?c3 ?c4 ?c5)
  case c1=>exact y4.o
  case c2=>
   intro k u hu;have hk:k<t.length:=(List.getElem?_eq_some_iff.1 hu).1;have h7:=a8.o k hk;rw [show (⟨b,o+1,none⟩:Addr).add k=⟨b,o+(k+1),none⟩ by unfold Addr.add;split<;>simp_all;omega,h7,gI,hu]
   rfl
  case c3=>have:=b8.o;have:=y4.o;simp;omega
  case c4=>simp
  case c5=>
   intro v1 d h0 h5 _ _;replace h0:aN d w.heap.size v1 t:=h0;replace h5:Only [] w d:=h5;have b5:=aA h0;have b6:=aA h5;have h6:∃ U,Row d r U [.pointer (some ⟨q,0,none⟩),.slice (some ⟨tg,0,none⟩) 193 tc,.slice (some ⟨b,o,none⟩) (n+1) c]:=z5.o.imp fun U x=>h5.row x (by simp);have hz:d.cell? ⟨r,2,none⟩=some (.slice (some ⟨b,o,none⟩) (n+1) c)/\d.frozen? ⟨r,2,none⟩=false:=by
    obtain ⟨U,x⟩:=h6;exact ⟨x.cell 2 rfl,x.free 2⟩
   obtain ⟨y2,yf⟩:=hz;have h9:Hid (∀ g,v1.ownBlock=some g->w.heap.size<=g/\g<d.heap.size):=fun g hg=>h0.own g hg;have x1:Only [r] d (d.setCell ⟨r,2,none⟩ v1):=(Only.refl [r] d).set (.inl (by simp)) _;have h8:∃ U,Row (d.setCell ⟨r,2,none⟩ v1) r U [.pointer (some ⟨q,0,none⟩),.slice (some ⟨tg,0,none⟩) 193 tc,v1]:=h6.imp fun U y=>y.set 2 _;have x3:aN (d.setCell ⟨r,2,none⟩ v1) 0 (.slice (some ⟨tg,0,none⟩) 193 tc) T:=(b3.o.only h5 (by simp)).only x1 (fun k hk=>by cases hk;simpa using Ne.symm y0.o);have y5:aN (d.setCell ⟨r,2,none⟩ v1) 0 v1 t:=(h0.base (Nat.zero_le _)).only x1 (fun k hk=>by have:=h9.o k hk;have:=z3.o;simp;omega);have t0:(d.setCell ⟨r,2,none⟩ v1).frozen? ⟨tg,x,none⟩=false/\∃ z,(d.setCell ⟨r,2,none⟩ v1).cell? ⟨tg,x,none⟩=some z:=by
    obtain ⟨_,_,cs,hr,_⟩:=x3.row;refine ⟨hr.free x,?_⟩;rcases x3.form with ⟨e,_⟩|⟨g,cap,e,_,_,_,hc⟩
    ·cases e
    simp only [Value.slice.injEq,Option.some.injEq,Addr.mk.injEq] at e;obtain ⟨⟨rfl,_⟩,_,_⟩:=e;exact ⟨_,hc x (by rw [y1.o];exact z4.o)⟩
   obtain ⟨tf,tz,t0⟩:=t0;have a6:(d.setCell ⟨r,2,none⟩ v1).cell? ⟨r,1,none⟩=some (.slice (some ⟨tg,0,none⟩) 193 tc):=by
    obtain ⟨U,x⟩:=h8;exact x.cell 1 rfl
   have x2:Only [tg] (d.setCell ⟨r,2,none⟩ v1) ((d.setCell ⟨r,2,none⟩ v1).setCell ⟨tg,x,none⟩ (.int .i64 2)):=(Only.refl [tg] _).set (.inl (by simp)) _;have x5:aEe ((d.setCell ⟨r,2,none⟩ v1).setCell ⟨tg,x,none⟩ (.int .i64 2)) r q tg tc v1 (T.set x 2) (jS m.col x 2) t:=⟨h8.imp fun U y=>x2.row y (by simpa using y0.o),x3.setAt x 2,by rw [List.length_set];exact y1.o,fun k hk=>by
    rw [mX (by rw [y1.o];exact z4.o)]
    by_cases e:k=x
    ·rw [if_pos e,e,cO]
    rw [if_neg e,bM _ _ (show (k:Int)≠(x:Int) by omega)];exact b0.o k hk,y5.only x2 (fun k hk=>by have:=h9.o k hk;have:=z6.o;simp;omega),y0.o,fun g hg=>by have:=h9.o g hg;have:=z3.o;have:=z6.o;exact ⟨by omega,by omega⟩⟩
   have hP:aI (fun k=>k=r\/k=tg\/some b=some k) w ((d.setCell ⟨r,2,none⟩ v1).setCell ⟨tg,x,none⟩ (.int .i64 2)):=((h5.vU (S:=fun k=>k=r\/k=tg\/some b=some k)).trans (x1.toP (S:=fun k=>k=r) (fun z hz=>.inl (by simpa using hz))) (fun z hz=>.inl (.inl hz))).trans (x2.toP (S:=fun k=>k=tg) (fun z hz=>.inl (by simpa using hz))) (fun z hz=>.inl (.inr (.inl hz)));have x6:=a9.o _ v1 _ _ _ x5 (fun g hg=>(h9.o g hg).1) hP;have a0:=aA x6;obtain ⟨q0,q1,q2,qf⟩:=x5.cells;obtain ⟨y6,L3,X3,y8⟩:=RL.gh T2 x6;have cr:=zL _ y8 y6 x;obtain ⟨va,vc,rfl⟩:=h0.len;clear h6 x1 h8 x3 y5 x2 x5 hP x6 y8 y6 h0 h5;generalize t.length=n1 at*;go_wp2_with fail;go_fit cr;rintro e w4 ⟨vr,rfl,x7,y7⟩;have x4:Hid (Fam w0 w4 (RL (l ++ [bT vr (m.M.refs x).1]) i j q r ⟨m.M,jS m.col x 2,t⟩)):=by
    show Fam _ _ _;rw [RL.app T2];exact a0.o.gY y7 x7
   obtain ⟨ra,rc,rfl⟩:=x7.len;obtain ⟨rn,x9⟩:∃ z,z=(m.M.refs x).1.length:=⟨_,rfl⟩;have y3:=aA x9;have a4:=rF HM.o.hf.ok (x:Int);rw [<-x9] at a4 x4 ⊢;clear cr x7 y7 x9 y2 yf t0 tf a6 q0 q1 q2 qf;go_wp2;go_loopw [8] (fun iv wr=>∃ k:Nat,k<=rn/\iv=.int .i64 k/\Fam w0 wr (RL (l ++ [bT (.slice ra rn rc) (m.M.refs x).1]) i j q r ((⟨m.M,jS m.col x 2,t⟩:Mk).aY ((m.M.refs x).1.take k)))) (fun iv _=>rn - (intOf iv).toNat)
   case atStart=>exact ⟨0,by omega,rfl,x4.o⟩
   case round=>
    clear x4;obtain ⟨k,hk,rfl,hf⟩:=hrel;have HF:=aA hf;clear hf
    by_cases a2:k<rn
    ·have y9:(k:Int)<rn:=by omega
     have c0:(0:Int)<=k:=by omega
     have x8:k<(m.M.refs x).1.length:=by rw [<-y3.o];exact a2
     obtain ⟨b4,o4,rfl,hc⟩:=(HF.o.ints l.length (RL.at T2)).read.at x8;have cs:=iU wr (T2.app _) HF.o (Mk.Ok.aY _ _ a7.o) (gI (m.M.refs x).1 k);rw [<-lY x8] at cs;clear x8;generalize gI (m.M.refs x).1 k=y at*;go_wp2_with fail;go_fit cs;rintro e w5 ⟨rfl,hf⟩;have a1:=aA hf;clear cs hf hc HF;go_wp2;exact ⟨⟨k+1,by omega,by go_num,a1.o⟩,by simp [intOf];omega⟩
    obtain rfl:k=rn:=by omega
    have y9:¬ (k:Int)<(k:Int):=by omega
    have HE:Hid (Fam w0 wr (RL l i j q r (m.dR x))):=by
     have h7:=HF.o;rw [List.take_of_length_le (by have:=y3.o;omega),b1.o,RL.app T2] at h7;exact h7.pop
    go_wp2;exact hR.o _ _ ⟨rfl,HE.o⟩
end
theorem aCv {l:List Int} {x:Int} {k:Nat} (y:k<l.length):bU (l.take (k+1)) x=bU (l.take k) x ++ if gI l k≠x then [gI l k] else []:=by
 unfold bU;rw [bY y];congr 1
 by_cases e:gI l k=x<;>simp [e]
theorem aGx (l:List Int) (x:Int):(bU l x).length<=l.length:=List.length_filter_le _ _
theorem aEe.aJk {w:World} {r q tg tc:Nat} {v:Value} {T:List Int} {h0:Int->Int} {d:List Int} (h:aEe w r q tg tc v T h0 d) {x:Nat} (hx:x<193) (y:Int):aEe (w.setCell ⟨tg,x,none⟩ (.int .i64 y)) r q tg tc v (T.set x y) (jS h0 x y) d:=by
 have hs:Only [tg] w (w.setCell ⟨tg,x,none⟩ (.int .i64 y)):=(Only.refl [tg] w).set (.inl (by simp)) _;refine ⟨h.row.imp fun U z=>hs.row z (by simpa using h.ne),h.tint.setAt x y,by rw [List.length_set];exact h.tl,fun k hk=>?_,h.ints.only hs (fun k hk=>by have:=(h.ne2 k hk).2;simpa using this),h.ne,h.ne2⟩;rw [mX (by rw [h.tl];exact hx)]
 by_cases e:k=x
 ·rw [if_pos e,e,cO]
 rw [if_neg e,bM _ _ (show (k:Int)≠(x:Int) by omega)];exact h.tv k hk
section
variable {w0 w:World} {l:List Asn} {i j q r:Nat} {m:Mk}
theorem aFc (w:World) (T2:gZ l i j) (hf:Fam w0 w (RL l i j q r m)) (x9:m.list.length<=1000000) (x:Int) (hx:1<=x/\x<=192):Calls prog 245 #[.pointer (some ⟨r,0,none⟩),.int .i64 x] w (fun e w'=>e=.returned (.tuple #[])/\Fam w0 w' (RL l i j q r (m.forget x))):=by
 refine aF fun R hR=>?_;obtain ⟨tg,tc,v,T,hg,ht⟩:=RL.mkT T2 hf;obtain ⟨z0,z1,z2,zf⟩:=hg.cells;obtain ⟨y,hy⟩:∃ y:Nat,x=(y:Int):=⟨x.toNat,by omega⟩;subst hy;have x8:y<193:=by omega
 have z9:(0:Int)<=(y:Int):=by omega
 have a0:(y:Int)<193:=by omega
 have a1:¬ (y:Int)<1:=by omega
 have a2:¬ (192:Int)<(y:Int):=by omega
 obtain ⟨t0,tf⟩:=hg.aCB x8;have x1:=hg.aJk x8 0;have d:=aA x1;have HG:=aA hg;have HT:=aA ht;have y7:Hid (Only [tg] w (w.setCell ⟨tg,y,none⟩ (.int .i64 0))):=(Only.refl [tg] w).set (.inl (by simp)) _;have h9:Hid (r<w.heap.size):=by obtain ⟨U,hr⟩:=hg.row;exact hr.lt
 have z3:Hid (tg<w.heap.size):=(hg.tint.own tg rfl).2;have x6:(w.setCell ⟨tg,y,none⟩ (.int .i64 0)).heap.size=w.heap.size:=by simp
 have y8:=aA x6;clear hf hg x1 ht hx x6;go_in;go_wp2_with fail;generalize w.setCell ⟨tg,y,none⟩ (.int .i64 0)=w1 at*;obtain ⟨a,c,hv⟩:=d.o.ints.len;subst hv;obtain ⟨n,hn⟩:∃ z,z=m.list.length:=⟨_,rfl⟩;have HN:=aA hn;have qR:Hid (∃ U,Row w1 r U [.pointer (some ⟨q,0,none⟩),.slice (some ⟨tg,0,none⟩) 193 tc,.slice a n c]):=by
  have h7:=d.o.row;rw [<-hn] at h7;exact h7
 rw [<-hn] at x9;clear z0 z1 z2 t0 tf hn;go_loopw [4,5] (fun vv iv wr=>∃ k:Nat,k<=n/\iv=.int .i64 k/\aN wr w1.heap.size vv (bU (m.list.take k) y)/\Only [] w1 wr) (fun _ iv _=>n - (intOf iv).toNat)
 case atStart=>exact ⟨0,by omega,rfl,aN.nil _ _,Only.refl _ _⟩
 case round=>
  obtain ⟨k,hk,rfl,hi,ho⟩:=hrel;have hz:wr.cell? ⟨r,2,none⟩=some (.slice a n c)/\wr.frozen? ⟨r,2,none⟩=false:=by
   obtain ⟨U,hr⟩:=qR.o;exact ⟨(ho.row hr (by simp)).cell 2 rfl,(ho.row hr (by simp)).free 2⟩
  obtain ⟨z2,a4⟩:=hz;have HI:=aA hi;have HO:=aA ho;obtain ⟨va,vc,x7⟩:=hi.len;obtain ⟨vn,h6⟩:∃ z,z=(bU (m.list.take k) (y:Int)).length:=⟨_,rfl⟩;have z8:vn<=1000000:=by
   have h1:=aGx (m.list.take k) (y:Int);rw [List.length_take] at h1;omega
  rw [<-h6] at x7;subst x7;have y9:=aA h6;clear hi ho h6
  by_cases z5:k<n
  ·have y0:(k:Int)<n:=by omega
   have z7:(0:Int)<=k:=by omega
   have h5:k<m.list.length:=by rw [<-HN.o];exact z5
   obtain ⟨b,o,rfl,hc⟩:=(d.o.ints.only HO.o (by simp)).read.at h5;have x4:=aCv (x:=(y:Int)) h5;have h4:=aA x4;clear x4 h5;obtain ⟨z,hz⟩:∃ z,z=gI m.list k:=⟨_,rfl⟩;rw [<-hz] at hc h4;clear hz
   by_cases h8:z=(y:Int)
   ·subst h8;have y4:Hid (aN wr w1.heap.size (.slice va vn vc) (bU (m.list.take (k+1)) (y:Int))):=by
     show aN _ _ _ _;rw [h4.o];simpa using HI.o
    go_wp2;exact ⟨⟨k+1,by omega,by go_num,y4.o,HO.o⟩,by simp [intOf];omega⟩
   have a3:(z != (y:Int))=true:=by simpa using h8
   have y5:Hid (bU (m.list.take (k+1)) (y:Int)=bU (m.list.take k) (y:Int) ++ [z]):=by show _=_;rw [h4.o,if_pos h8]
   have z6:(wr.alloc (.cells #[.int .i64 z] 3)).cell? ⟨r,2,none⟩=some (.slice (some ⟨b,o,none⟩) n c):=((Only.refl [] wr).alloc _).cell z2 (by simp);go_wp2_with (at_builtin;refine bH rfl _ _ rfl w1.heap.size _ _ rfl (HI.o.alloc (.cells #[.int .i64 z] 3)) wr.heap.size z rfl ?c1 ?c2 ?c3 ?c4)
   case c1=>exact (Row.new wr _ [_]).cell 0 rfl
   case c2=>have:=y9.o;omega
   case c3=>have:=HO.o.size;simp;omega
   case c4=>
    intro v' w2 x2 x3 z4;have y6:Hid (Only [] w1 w2):=oV HO.o HI.o x3;have y3:Hid (aN w2 w1.heap.size v' (bU (m.list.take (k+1)) (y:Int))):=by show aN _ _ _ _;rw [y5.o];exact x2
    clear x2 x3 z4;go_wp2;exact ⟨⟨k+1,by omega,by go_num,y3.o,y6.o⟩,by simp [intOf];omega⟩
  obtain rfl:k=n:=by omega
  have y0:¬ (k:Int)<(k:Int):=by omega
  have y2:Hid (Fam w0 (wr.setCell ⟨r,2,none⟩ (.slice va vn vc)) (RL l i j q r (m.forget (y:Int)))):=by
   have hi:aN wr w1.heap.size (.slice va vn vc) (bU m.list (y:Int)):=by
    have h7:=HI.o;rw [List.take_of_length_le (by have:=HN.o;omega)] at h7;exact h7
   have h0:∀ g,(Value.slice va vn vc).ownBlock=some g->w.heap.size<=g:=fun g hg=>by have:=(hi.own g hg).1;have:=y8.o;omega
   have x5:Only [r] wr (wr.setCell ⟨r,2,none⟩ (.slice va vn vc)):=(Only.refl [r] wr).set (.inl (by simp)) _;have y1:∃ U,Row wr r U [.pointer (some ⟨q,0,none⟩),.slice (some ⟨tg,0,none⟩) 193 tc,.slice a k c]:=qR.o.imp fun U z=>HO.o.row z (by simp);have hP:=((y7.o.trans HO.o (by simp)).toP (S:=fun z=>z=r\/z=tg\/(Value.slice a m.list.length c).ownBlock=some z) (fun z hz=>.inl (.inr (.inl (by simpa using hz))))).set (p:=⟨r,2,none⟩) (.inl (.inl rfl)) (.slice va vn vc);refine HT.o _ tg tc _ _ _ _ ⟨y1.imp fun U z=>z.set 2 _,(d.o.tint.only HO.o (by simp)).only x5 (fun z hz=>by cases hz;simpa using Ne.symm d.o.ne),d.o.tl,d.o.tv,(hi.base (Nat.zero_le _)).only x5 (fun z hz=>by have:=h0 z hz;have:=h9.o;simp;omega),d.o.ne,fun g hg=>?_⟩ (.inl rfl) (fun g hg=>.inr (h0 g hg)) hP;have h1:=h0 g hg;have h2:=h9.o;have h3:=z3.o;exact ⟨by omega,by omega⟩
  go_wp2_with fail;go_end0;exact hR.o _ _ ⟨rfl,y2.o⟩
theorem aBf (w:World) (T2:gZ l i j) (d:Fam w0 w (RL l i j q r m)) (h4:m.list.length<=1000000) (x e0:Int) (hx:e0=0->1<=x/\x<=192):Calls prog 217 #[.pointer (some ⟨r,0,none⟩),.int .i64 x,.int .i64 e0] w (fun e w'=>e=.returned (.tuple #[.int .i64 x,.int .i64 e0])/\Fam w0 w' (RL l i j q r (if e0=0 then m.black x else m))):=by
 refine aF fun R hR=>?_;have HF:=aA d
 by_cases he:e0=0
 ·subst he;rw [if_pos rfl] at hR;have co:=aFc w T2 d h4 x (hx rfl);obtain ⟨h1,h2⟩:=hx rfl;obtain ⟨y,hy⟩:∃ y:Nat,x=(y:Int):=⟨x.toNat,by omega⟩;subst hy;have h3:y<193:=by omega
  have h8:(0:Int)<=(y:Int):=by omega
  have h9:(y:Int)<193:=by omega
  clear d hx h1 h2;go_in;go_wp2_with fail;go_fit co;rintro e w1 ⟨rfl,d⟩;obtain ⟨tg,tc,v,T,hg,ht⟩:=RL.mkT T2 d;obtain ⟨z0,z1,z2,zf⟩:=hg.cells;obtain ⟨t0,tf⟩:=hg.aCB h3;have hs:Only [tg] w1 (w1.setCell ⟨tg,y,none⟩ (.int .i64 2)):=(Only.refl [tg] w1).set (.inl (by simp)) _;have h0:jS (m.forget (y:Int)).col (y:Int) 2=jS m.col (y:Int) 2:=by
   funext k
   by_cases e:k=(y:Int)
   ·rw [e,cO,cO]
   rw [bM _ _ e,bM _ _ e];exact bM _ _ e
  have h5:Hid (Fam w0 (w1.setCell ⟨tg,y,none⟩ (.int .i64 2)) (RL l i j q r (m.black (y:Int)))):=by
   have h7:=ht _ tg tc v _ _ _ (hg.aJk h3 2) (.inl rfl) (fun g hg=>.inl hg) (hs.toP (fun z hz=>.inl (.inr (.inl (by simpa using hz)))));rw [h0] at h7;exact h7
  clear co d hg ht hs h0 HF;go_wp2;exact hR.o _ _ ⟨rfl,h5.o⟩
 rw [if_neg he] at hR;have h6:(e0 == 0)=false:=by simpa using he
 clear d hx;go_in;go_wp2;exact hR.o _ _ ⟨rfl,HF.o⟩
theorem zQ (w:World) (T2:gZ l i j) (d:Fam w0 w (RL l i j q r m)) (hm:m.Ok) (c:Int) (v:Value) (y:List Bool) (hv:aBt w v y) (hl:y.length<=1000000):Calls prog 173 #[.pointer (some ⟨r,0,none⟩),.int .i64 c,v] w (fun e w'=>e=.returned (.tuple #[.int .i64 (m.aH c y).1,.int .i64 (m.aH c y).2.1])/\Fam w0 w' (RL l i j q r (m.aH c y).2.2)):=by
 refine aF fun R hR=>?_;obtain ⟨tg,tc,vv,T,hg⟩:=RL.mk T2 d;obtain ⟨z0,z1,z2,_⟩:=hg.cells;have c1:=d.aDA i (RL.heap T2) (M':=(m.M.aH c y).2.2) (fun hk=>hk.aH c y) (fun L X hr hk=>pY w hr hk c v y hv hl);rw [RL.put T2] at c1;have HM:=aA hm;have z:=m.M.iJ c y;have HX:Hid ((m.M.aH c y).2.1=0->1<=(m.M.aH c y).1/\(m.M.aH c y).1<=192):=fun h0=>by
  obtain ⟨_,_,o,ho,_⟩:=z.yes h0;exact (z.ok hm.hf).ok.hr _ o ho
 unfold Mk.aH Mk.made at hR;simp only at hR;clear d hg hm z hv hl;generalize m.M.aH c y=rr at*;obtain ⟨r1,r2,M2⟩:=rr;go_in;go_wp2_with fail;go_fit c1;rintro e w1 ⟨rfl,d⟩;have c2:=aBf w1 T2 d (by have:=HM.o.len;show m.list.length<=1000000;omega) r1 r2 HX.o;clear c1 d;go_wp2_with fail;go_fit c2;rintro e w2 ⟨rfl,d⟩;have h1:=aA d;clear c2 d;go_wp2;exact hR.o _ _ ⟨rfl,h1.o⟩
theorem jE (w:World) (d:gZ l i j) (z:Fam w0 w (RL l i j q r m)) (hm:m.Ok) (k c n:Int):Calls prog 149 #[.pointer (some ⟨r,0,none⟩),.int .i64 k,.int .i64 c,.int .i64 n] w (fun e w'=>e=.returned (.tuple #[.int .i64 (m.aG k c n).1,.int .i64 (m.aG k c n).2.1])/\Fam w0 w' (RL l i j q r (m.aG k c n).2.2)):=by
 refine aF fun R hR=>?_;obtain ⟨tg,tc,vv,T,hg⟩:=RL.mk d z;obtain ⟨z0,z1,z2,_⟩:=hg.cells;have c1:=z.aDA i (RL.heap d) (M':=(m.M.aG k c n).2.2) (fun hk=>hk.aG k c n) (fun L X hr hk=>sO w hr hk k c n);rw [RL.put d] at c1;have HM:=aA hm;have y:=m.M.jJ k c n;have HX:Hid ((m.M.aG k c n).2.1=0->1<=(m.M.aG k c n).1/\(m.M.aG k c n).1<=192):=fun h0=>by
  obtain ⟨_,_,o,ho,_⟩:=y.yes h0;exact (y.ok hm.hf).ok.hr _ o ho
 unfold Mk.aG Mk.made at hR;simp only at hR;clear z hg hm y;generalize m.M.aG k c n=rr at*;obtain ⟨r1,r2,M2⟩:=rr;go_in;go_wp2_with fail;go_fit c1;rintro e w1 ⟨rfl,z⟩;have c2:=aBf w1 d z (by have:=HM.o.len;show m.list.length<=1000000;omega) r1 r2 HX.o;clear c1 z;go_wp2_with fail;go_fit c2;rintro e w2 ⟨rfl,z⟩;have h1:=aA z;clear c2 z;go_wp2;exact hR.o _ _ ⟨rfl,h1.o⟩
theorem aFb (w:World) (T2:gZ l i j) (z:Fam w0 w (RL l i j q r m)) (hm:m.Ok) (a s y:Int):Calls prog 148 #[.pointer (some ⟨r,0,none⟩),.int .i64 a,.int .i64 s,.int .i64 y] w (fun e w'=>e=.returned (.int .i64 (m.store a s y).1)/\Fam w0 w' (RL l i j q r (m.store a s y).2)):=by
 refine aF fun R hR=>?_;obtain ⟨tg,tc,vv,T,hg⟩:=RL.mk T2 z;obtain ⟨z0,z1,z2,_⟩:=hg.cells;obtain ⟨d,L,X,hp⟩:=RL.gh T2 z;have c1:=uY w hp d a s;have c2:=aGe w hp d a s;have c3:=z.aDA i (RL.heap T2) (M':=(m.M.set a s y).2) (fun d=>d.set a s y) (fun L X hr d=>aGd w hr d a s y);rw [RL.put T2] at c3;have h0:Hid ((m.put (m.M.set a s y).2).Ok):=hm.put (hm.hf.set a s y) (fun k d=>by rw [Hp.oP];exact d);unfold Mk.store at hR;simp only at hR;clear z hg hm hp d;generalize (m.M.isRef a s).1=rf at*;generalize (m.M.isRef a s).2=re at*;generalize (m.M.get a s).1=h1 at*;generalize (m.M.get a s).2=oe at*;generalize (m.M.set a s y).1=se at*;generalize m.put (m.M.set a s y).2=m2 at*;go_in;go_wp2_with fail;go_fit c1;rintro e _ ⟨rfl,rfl⟩;go_wp2_with fail;go_fit c2;rintro e _ ⟨rfl,rfl⟩;go_wp2_with fail;go_fit c3;rintro e w1 ⟨rfl,z⟩;have HF:=aA z;clear c1 c2 c3 z z0 z1 z2
 by_cases hc:se=0/\rf=true
 ·obtain ⟨rfl,rfl⟩:=hc;rw [if_pos ⟨rfl,rfl⟩] at hR;have ca:=iU w1 T2 HF.o h0.o h1;go_wp2_with fail;go_fit ca;rintro e w2 ⟨rfl,z⟩;have cb:=iU w2 T2 z (h0.o.bG h1) y;clear ca z;go_wp2_with fail;go_fit cb;rintro e w3 ⟨rfl,z⟩;have h2:=aA z;clear cb z;go_wp2;exact hR.o _ _ ⟨rfl,h2.o⟩
 rw [if_neg hc] at hR
 by_cases hs:se=0
 ·subst hs;have h3:rf=false:=by cases rf;rfl;exact absurd ⟨rfl,rfl⟩ hc
  subst h3;clear hc;go_wp2;exact hR.o _ _ ⟨rfl,HF.o⟩
 have h4:(se == 0)=false:=by simpa using hs
 clear hc;go_wp2;exact hR.o _ _ ⟨rfl,HF.o⟩
end
theorem aMw (n:Nat) (hn:n<=1000):∃ C:Array Value,C.toList=List.replicate n (.int .i64 0)/\∀ y:World,(Instr.makeSlice 23 (.int .i64 (n:Int)) (.int .i64 (n:Int))).run prog y=.ok (.slice (some ⟨y.heap.size,0,none⟩) n n) (y.alloc (.cells C 3)):=by
 obtain ⟨i0,d,e,z,h0⟩:=info_parts jO;refine ⟨madeCells (Value.int .i64 0).cells (n*1),by rw [zA],fun y=>?_⟩;rw [run_makeSlice (P:=prog) (w:=y) 23 3 i0 _ Tryz.underlying23 d e .i64 .i64 _ _ (by omega) (by omega) (by rw [z];omega) (by rw [h0];omega) (by omega),z];rfl
section
variable {w0 w:World} {l:List Asn} {i j q r:Nat} {m:Mk}
theorem aGy {l:List Int} {y:Int->Int} {k:Nat} (z:k<l.length):(l.take (k+1)).filter (fun x=>decide (y x=0))=(l.take k).filter (fun x=>decide (y x=0)) ++ if y (gI l k)=0 then [gI l k] else []:=by
 rw [bY z];congr 1
 by_cases e:y (gI l k)=0<;>simp [e]
theorem aHF (w:World) (T2:gZ l i j) (hf:Fam w0 w (RL l i j q r m)):Calls prog 223 #[.pointer (some ⟨r,0,none⟩)] w (aOb w m.white):=by
 refine aF fun R hR=>?_;obtain ⟨tg,tc,vv,T,hg⟩:=RL.mk T2 hf;obtain ⟨z0,z1,z2,_⟩:=hg.cells;obtain ⟨hk,L,X,hp⟩:=RL.gh T2 hf;have ch:=aDK w hp hk;have HG:=aA hg;have HK:=aA hk;clear hf hg hp hk;go_in;go_wp2_with fail;go_fit ch;rintro e w1 ⟨lv,rfl,h8,ho⟩;obtain ⟨la,lc,rfl⟩:=h8.len;have h4:=aA ho;have x8:=aA h8;have x5:m.M.handles.length<=192:=Hp.oH m.M 192;obtain ⟨n,hn⟩:∃ z,z=m.M.handles.length:=⟨_,rfl⟩;have HN:=aA hn;rw [<-hn] at x5 ⊢;clear ho h8 ch hn z0 z1 z2;go_wp2;go_loopw [3,5] (fun vv iv wr=>∃ k:Nat,k<=n/\iv=.int .i64 k/\aN wr w1.heap.size vv ((m.M.handles.take k).filter (fun x=>decide (m.col x=0)))/\Only [] w1 wr) (fun _ iv _=>n - (intOf iv).toNat)
 case atStart=>exact ⟨0,by omega,rfl,aN.nil _ _,Only.refl _ _⟩
 case round=>
  obtain ⟨k,hk,rfl,hi,ho⟩:=hrel;have HI:=aA hi;have HO:=aA ho;obtain ⟨va,vc,x4⟩:=hi.len;obtain ⟨vn,h9⟩:∃ z,z=((m.M.handles.take k).filter (fun x=>decide (m.col x=0))).length:=⟨_,rfl⟩;have y8:vn<=1000000:=by
   have h1:=List.length_filter_le (fun x=>decide (m.col x=0)) (m.M.handles.take k);rw [List.length_take] at h1;omega
  rw [<-h9] at x4;subst x4;have y0:=aA h9;clear hi ho h9
  by_cases y2:k<n
  ·have x6:(k:Int)<n:=by omega
   have y7:(0:Int)<=k:=by omega
   have h5:k<m.M.handles.length:=by rw [<-HN.o];exact y2
   obtain ⟨b,o,rfl,hc⟩:=(x8.o.only HO.o (by simp)).read.at h5;have x2:=HK.o.inR (Hp.zJ h5);have h2:Hid ((m.M.handles.take (k+1)).filter (fun x=>decide (m.col x=0))=(m.M.handles.take k).filter (fun x=>decide (m.col x=0)) ++ if m.col (gI m.M.handles k)=0 then [gI m.M.handles k] else []):=aGy h5;clear h5;obtain ⟨y,hy⟩:∃ y:Nat,gI m.M.handles k=(y:Int):=⟨(gI m.M.handles k).toNat,by omega⟩;rw [hy] at hc h2 x2;have y3:y<193:=by omega
   have y9:(0:Int)<=(y:Int):=by omega
   have z3:(y:Int)<193:=by omega
   have z1:wr.cell? ⟨r,1,none⟩=some (.slice (some ⟨tg,0,none⟩) 193 tc):=HO.o.cell (h4.o.cell HG.o.cells.2.1 (by simp)) (by simp);have t0:=HO.o.cell (h4.o.cell (HG.o.aCB y3).1 (by simp)) (by simp);have y5:Hid (∀ q,Only [] w1 (wr.drewN q)):=fun q=>HO.o.drewN q;clear x2 hy
   by_cases h0:m.col (y:Int)=0
   ·have h6:Hid ((m.M.handles.take (k+1)).filter (fun x=>decide (m.col x=0))=(m.M.handles.take k).filter (fun x=>decide (m.col x=0)) ++ [(y:Int)]):=by show _=_;rw [h2.o,if_pos h0]
    rw [h0] at t0;clear h2 h0;go_wp2;go_quiet (fail);have y6:(wr.drewN nq).cell? ⟨b,o+k,none⟩=some (.int .i64 (y:Int)):=hc;have h3:Hid (aN (wr.drewN nq) w1.heap.size (.slice va vn vc) ((m.M.handles.take k).filter (fun x=>decide (m.col x=0)))):=HI.o;have d:Hid (Only [] w1 (wr.drewN nq)):=HO.o.drewN nq;clear HI HO hc z1 t0;generalize wr.drewN nq=w2 at*;go_wp2_with (at_builtin;refine bH rfl _ _ rfl w1.heap.size _ _ rfl (h3.o.alloc (.cells #[.int .i64 (y:Int)] 3)) w2.heap.size (y:Int) rfl ?c1 ?c2 ?c3 ?c4)
    case c1=>exact (Row.new w2 _ [_]).cell 0 rfl
    case c2=>have:=y0.o;omega
    case c3=>have:=d.o.size;simp;omega
    case c4=>
     intro v' w3 x1 x3 y1;have x9:Hid (Only [] w1 w3):=oV d.o h3.o x3;have x7:Hid (aN w3 w1.heap.size v' ((m.M.handles.take (k+1)).filter (fun x=>decide (m.col x=0)))):=by show aN _ _ _ _;rw [h6.o];exact x1
     clear x1 x3 y1;go_wp2;exact ⟨⟨k+1,by omega,by go_num,x7.o,x9.o⟩,by simp [intOf];omega⟩
   have h6:Hid ((m.M.handles.take (k+1)).filter (fun x=>decide (m.col x=0))=(m.M.handles.take k).filter (fun x=>decide (m.col x=0))):=by show _=_;rw [h2.o,if_neg h0];simp
   have y4:(m.col (y:Int) == 0)=false:=by simpa using h0
   clear h2 h0;generalize m.col (y:Int)=cy at t0 y4;go_wp2;go_quiet (fail);have h3:Hid (aN (wr.drewN nq) w1.heap.size (.slice va vn vc) ((m.M.handles.take (k+1)).filter (fun x=>decide (m.col x=0)))):=by show aN _ _ _ _;rw [h6.o];exact HI.o
   have d:Hid (Only [] w1 (wr.drewN nq)):=HO.o.drewN nq;clear HI HO hc z1 t0;generalize wr.drewN nq=w2 at*;go_wp2;exact ⟨⟨k+1,by omega,by go_num,h3.o,d.o⟩,by simp [intOf];omega⟩
  obtain rfl:k=n:=by omega
  have x6:¬ (k:Int)<(k:Int):=by omega
  have HE:Hid (aN wr w.heap.size (.slice va vn vc) m.white):=by
   have h7:=HI.o;rw [List.take_of_length_le (by have:=HN.o;omega)] at h7;exact h7.base h4.o.size
  have d:Hid (Only [] w wr):=h4.o.trans HO.o (by simp);go_wp2;exact hR.o _ _ ⟨_,rfl,HE.o,d.o⟩
theorem RL.born {M:Hp} (z:l[i]?=some (GH q M)):RL (l ++ [GkA r q (fun _=>0) []]) i l.length q r (Mk.start M)=l ++ [GkA r q (fun _=>0) []]:=by
 have y:i<l.length:=(List.getElem?_eq_some_iff.1 z).1;unfold RL;rw [List.set_append_left _ _ y,show (Mk.start M).M=M from rfl,xW z,List.set_append_right _ _ (by omega),Nat.sub_self];rfl
theorem aBg (w:World) {M:Hp} (hf:Fam w0 w l) (hi:l[i]?=some (GH q M)) (a:Option Addr) (n c:Nat) (y:List Int) (hl:y.length=n) (hn:n<=1000000) (x6:mY w (.slice a n c) y)
  (hr:∀ r w' m',Fam w0 w' (RL (l ++ [GkA r q (fun _=>0) []]) i l.length q r m')->mY w' (.slice a n c) y) (hM:M.OkF) :
  Calls prog 181 #[.pointer (some ⟨q,0,none⟩),.slice a n c] w (fun e w'=>(M.bZ y/\e=.returned (.tuple #[.pointer none,.int .i64 3])/\Fam w0 w' l)\/(¬ M.bZ y/\∃ r,e=.returned (.tuple #[.pointer (some ⟨r,0,none⟩),.int .i64 0])/\Fam w0 w' (RL (l ++ [GkA r q (fun _=>0) []]) i l.length q r ((Mk.start M).aY y)))):=by
 refine aF fun R hR=>?_;have HF:=aA hf;have y8:=aA x6;have HI:=aA hi;have y7:=aA hr;have HL:=aA hl;have y4:=aA hM;obtain ⟨C,hC,x1⟩:=aMw 193 (by omega);have z0:∀ wx:World,(Instr.makeSlice 23 (.int .i64 193) (.int .i64 193)).run prog wx=.ok (.slice (some ⟨wx.heap.size,0,none⟩) 193 193) (wx.alloc (.cells C 3)):=x1;have HC:=aA hC;clear hf x6 hi hr hl hM hC x1;go_in;go_wp2;go_loopw [6] (fun iv wr=>∃ k:Nat,k<=n/\iv=.int .i64 k/\Only [] w wr/\Hid (∀ j,j<k->¬ (gI y j≠0/\(M.ob (gI y j)).isSome=false))) (fun iv _=>n - (intOf iv).toNat)
 case atStart=>exact ⟨0,by omega,rfl,Only.refl _ _,fun j hj=>by omega⟩
 case round=>
  obtain ⟨k,hk,rfl,ho,HB⟩:=hrel;have HO:=aA ho;have x3:=aA (HF.o.aK ho);clear ho
  by_cases y9:k<n
  ·have x8:(k:Int)<n:=by omega
   have z4:(0:Int)<=k:=by omega
   have d:k<y.length:=by rw [HL.o];exact y9
   obtain ⟨b,o,rfl,hc⟩:=(y8.o.only HO.o (by simp)).at d;have h8:Hid (gI y k≠0/\(M.ob (gI y k)).isSome=false->M.bZ y):=fun h=>⟨gI y k,dX.2 ⟨k,d,rfl⟩,h.1,by cases e:M.ob (gI y k);rfl;rw [e] at h;simp at h⟩;have h4:Hid (¬ (gI y k≠0/\(M.ob (gI y k)).isSome=false)->∀ j,j<k+1->¬ (gI y j≠0/\(M.ob (gI y j)).isSome=false)):=fun hd j hj=>by
    by_cases e:j=k
    ·rw [e];exact hd
    exact HB.o j (by omega)
   obtain ⟨x5,L,X,hp⟩:=x3.o.gh i HI.o;have cl:=jT wr hp x5 (gI y k);clear d hp x5
   by_cases h0:gI y k=0
   ·have h5:=aA (h4.o (fun h=>h.1 h0));rw [h0] at hc;clear h8 h4 cl h0;go_wp2;exact ⟨⟨k+1,by omega,by go_num,HO.o,h5.o⟩,by simp [intOf];omega⟩
   have z5:(gI y k != 0)=true:=by simpa using h0
   cases hs:(M.ob (gI y k)).isSome with
   | true=>
    rw [hs] at cl;have h5:=aA (h4.o (fun h=>by have:=h.2;rw [hs] at this;cases this))
    clear h8 h4 hs h0;generalize gI y k=x at*;go_wp2_with fail;go_fit cl;rintro e w2 ⟨rfl,ho⟩;have y6:Hid (Only [] w w2):=HO.o.trans ho (by simp);clear cl ho hc;go_wp2;exact ⟨⟨k+1,by omega,by go_num,y6.o,h5.o⟩,by simp [intOf];omega⟩
   | false=>
    rw [hs] at cl;have h5:=aA (h8.o ⟨h0,hs⟩);clear h8 h4 hs h0;generalize gI y k=x at*;go_wp2_with fail;go_fit cl;rintro e w2 ⟨rfl,ho⟩;have y1:=aA (x3.o.aK ho);clear cl ho hc;go_wp2;exact hR.o _ _ (.inl ⟨h5.o,rfl,y1.o⟩)
  obtain rfl:k=n:=by omega
  have x8:¬ (k:Int)<(k:Int):=by omega
  have y5:Hid (¬ M.bZ y):=fun ⟨x,h1,h2,h3⟩=>by
   obtain ⟨j,hj,rfl⟩:=dX.1 h1;exact HB.o j (by have:=HL.o;omega) ⟨h2,by rw [h3];rfl⟩
  have x7:(wr.alloc (.cells C 3)).heap.size=wr.heap.size+1:=by simp
  have h6:aGw wr ((wr.alloc (.cells C 3)).alloc (.cells #[.pointer (some ⟨q,0,none⟩),.slice (some ⟨wr.heap.size,0,none⟩) 193 193,.slice none 0 0] 150)) (GkA (wr.heap.size+1) q (fun _=>0) []):=by
   refine ⟨((Only.refl [] wr).alloc _).alloc _,fun k=>k=wr.heap.size+1\/k=wr.heap.size\/(Value.slice none 0 0).ownBlock=some k,⟨wr.heap.size,193,.slice none 0 0,List.replicate 193 0,⟨⟨150,?_⟩,?_,List.length_replicate,fun k hk=>?_,aN.nil _ _,by omega,fun g hg=>by cases hg⟩,fun k=>Iff.rfl⟩,fun k hk=>?_⟩
   ·have:=Row.new (wr.alloc (.cells C 3)) 150 [.pointer (some ⟨q,0,none⟩),.slice (some ⟨wr.heap.size,0,none⟩) 193 193,.slice none 0 0];rw [x7] at this;exact this
   ·have h1:Row (wr.alloc (.cells C 3)) wr.heap.size 3 (List.replicate 193 (.int .i64 0)):=by rw [<-HC.o];exact Row.new wr 3 C.toList
    have h2:=aN.ofRow (w:=(wr.alloc (.cells C 3)).alloc (.cells #[.pointer (some ⟨q,0,none⟩),.slice (some ⟨wr.heap.size,0,none⟩) 193 193,.slice none 0 0] 150)) (base:=0) (l:=List.replicate 193 0) (cap:=193) (Nat.zero_le _) (h1.alloc _) (by simp) (by simp) (by simp) (by simp [maxLen]);rw [List.length_replicate] at h2;exact h2
   ·unfold gI;rw [List.getElem?_replicate,if_pos hk];rfl
   rcases hk with hk|hk|hk
   ·omega
   ·omega
   cases hk
  have x4:=x3.o.add h6;rw [<-RL.born HI.o] at x4;have x2:=aA x4;have y3:Hid ((Mk.start M).Ok):=Mk.Ok.start y4.o;obtain ⟨r,hr⟩:∃ z,z=wr.heap.size+1:=⟨_,rfl⟩;have z2:=aA hr;rw [<-hr] at x2;clear h6 x4 x7;go_wp2_with fail;rw [<-hr];generalize ((wr.alloc (.cells C 3)).alloc (.cells #[.pointer (some ⟨q,0,none⟩),.slice (some ⟨wr.heap.size,0,none⟩) 193 193,.slice none 0 0] 150))=w4 at*;clear hr z0;go_loopw [8] (fun iv z1=>∃ k2:Nat,k2<=k/\iv=.int .i64 k2/\Fam w0 z1 (RL (l ++ [GkA r q (fun _=>0) []]) i l.length q r ((Mk.start M).aY (y.take k2)))) (fun iv _=>k - (intOf iv).toNat)
  case atStart=>exact ⟨0,by omega,rfl,x2.o⟩
  case round=>
   clear x2;obtain ⟨k2,x5,rfl,hf⟩:=hrel;have h9:=aA hf;clear hf
   by_cases x9:k2<k
   ·have y0:(k2:Int)<k:=by omega
    have z3:(0:Int)<=k2:=by omega
    have d:k2<y.length:=by rw [HL.o];exact x9
    obtain ⟨b,o,rfl,hc⟩:=(y7.o r _ _ h9.o).at d;have cs:=iU _ (gZ.born HI.o) h9.o (Mk.Ok.aY _ _ y3.o) (gI y k2);rw [<-lY d] at cs;clear d;generalize gI y k2=x at*;go_wp2_with fail;go_fit cs;rintro e w6 ⟨rfl,hf⟩;have y2:=aA hf;clear cs hf hc h9;go_wp2;exact ⟨⟨k2+1,by omega,by go_num,y2.o⟩,by simp [intOf];omega⟩
   obtain rfl:k2=k:=by omega
   have y0:¬ (k2:Int)<(k2:Int):=by omega
   have HE:Hid (Fam w0 wr (RL (l ++ [GkA r q (fun _=>0) []]) i l.length q r ((Mk.start M).aY y))):=by
    have h7:=h9.o;rw [List.take_of_length_le (by have:=HL.o;omega)] at h7;exact h7
   go_wp2;exact hR.o _ _ (.inr ⟨y5.o,r,rfl,HE.o⟩)
end
set_option maxHeartbeats 3200000
def enC (e:En):List Value:=[.int .i64 e.kind,.int .i64 e.tgt,.int .i64 e.tag]
def dL (l:List En):List Value:=l.flatMap enC
theorem mO (l:List En):(dL l).length=l.length*3:=by
 unfold dL
 induction l with
 | nil=>rfl
 | cons e l y=>rw [List.flatMap_cons,List.length_append,y];simp [enC];omega
theorem aAc (l y:List En):dL (l ++ y)=dL l ++ dL y:=by unfold dL;rw [List.flatMap_append]
theorem vF (l:List En) {i j:Nat} (z:i<l.length) (hj:j<3):(dL l)[i*3+j]?=(enC (eAt l i))[j]?:=by
 induction l generalizing i with
 | nil=>simp at z
 | cons e l ih=>
  unfold dL;rw [List.flatMap_cons]
  cases i with
  | zero=>
   rw [Nat.zero_mul,Nat.zero_add,List.getElem?_append_left (by simp [enC];omega)];rfl
  | succ i=>
   rw [List.getElem?_append_right (by simp [enC];omega)];have d:(i+1)*3+j - (enC e).length=i*3+j:=by simp [enC];omega
   rw [d];have y:=ih (i:=i) (by simp at z;omega);unfold dL at y;rw [y];rfl
def iP (w:World) (T base:Nat) (v:Value) (l:List En):Prop:=w.ownsRow base T 3 v l.length (dL l)
section
variable {w w':World} {T base:Nat} {v:Value} {l:List En}
theorem iP.own (h:iP w T base v l):∀ k,v.ownBlock=some k->base<=k/\k<w.heap.size:=World.ownsRow.lt h
theorem iP.dB {S:Nat->Prop} (h:iP w T base v l) (hg:aI S w w') (hF:∀ k,v.ownBlock=some k->¬ S k):iP w' T base v l:=by
 refine ⟨h.1,?_⟩;rcases h.2 with e|⟨g,cap,y,d,hb,z,r⟩
 ·exact .inl e
 exact .inr ⟨g,cap,y,d,hb,by rw [hg.block g (Array.getElem?_eq_some_iff.1 z).1 (hF g (by rw [d];rfl))];exact z,r⟩
theorem iP.only {F:List Nat} (h:iP w T base v l) (z:Only F w w') (y:∀ k,v.ownBlock=some k->k∉F):iP w' T base v l:=h.dB (z.toP (S:=fun k=>k∈F) (fun x hx=>.inl hx)) y
theorem iP.nil (w:World) (T base:Nat):iP w T base (.slice none 0 0) []:=World.ownsRow_nil _ _ _ _
theorem iP.len (h:iP w T base v l):∃ a cap,v=.slice a l.length cap:=by
 rcases h.2 with ⟨y,z⟩|⟨g,cap,e,d,_⟩
 ·exact ⟨none,0,by rw [y,z]⟩
 exact ⟨_,cap,d⟩
end
section
variable {w:World} {T base:Nat} {v:Value} {l:List En}
theorem iP.low (h:iP w T base v l) {b:Nat} (hb:b<=base):iP w T b v l:=World.ownsRow.mono h hb
theorem iP.form (h:iP w T base v l) (hl:l≠[]):∃ g cap,v=.slice (some ⟨g,0,none⟩) l.length cap/\base<=g/\g<w.heap.size/\l.length<=cap:=by
 rcases h.2 with ⟨h1,y⟩|⟨g,cap,h0,hv,d,e,z,_⟩
 ·exact absurd (List.eq_nil_of_length_eq_zero y) hl
 exact ⟨g,cap,hv,d,(Array.getElem?_eq_some_iff.1 e).1,z⟩
theorem iP.at (h:iP w T base v l) {i:Nat} (y:i<l.length):∃ g cap,v=.slice (some ⟨g,0,none⟩) l.length cap/\g<w.heap.size/\l.length<=cap/\w.cell? ⟨g,i*3,none⟩=some (.int .i64 (eAt l i).kind)/\w.cell? ⟨g,i*3+1,none⟩=some (.int .i64 (eAt l i).tgt)/\w.cell? ⟨g,i*3+2,none⟩=some (.int .i64 (eAt l i).tag)/\∀ k,w.frozen? ⟨g,k,none⟩=false:=by
 obtain ⟨g,cap,rfl,hb,d,z⟩:=h.form (fun e=>by rw [e] at y;simp at y);refine ⟨g,cap,rfl,d,z,?_,?_,?_,fun k=>World.ownsRow.frozenAt h k⟩
 ·rw [World.ownsRow.cellAt h _ (by omega)];exact vF l (j:=0) y (by omega)
 ·rw [World.ownsRow.cellAt h _ (by omega)];exact vF l (j:=1) y (by omega)
 rw [World.ownsRow.cellAt h _ (by omega)];exact vF l (j:=2) y (by omega)
theorem aFi (l:List En) {i:Nat} (y:i<l.length) (x:Int):(dL l).set (i*3+1) (.int .i64 x)=dL (l.set i ⟨(eAt l i).kind,x,(eAt l i).tag⟩):=by
 induction l generalizing i with
 | nil=>simp at y
 | cons e l d=>
  cases i with
  | zero=>rfl
  | succ i=>
   have z:=d (i:=i) (by simp at y;omega);rw [show (i+1)*3+1=(i*3+1)+1+1+1 by omega];show _ :: _ :: _ :: (dL l).set (i*3+1) _=_ :: _ :: _ :: dL (l.set i _);rw [z];rfl
theorem iP.put (h:iP w T base v l) {i:Nat} (z:i<l.length) (x:Int) {g cap n:Nat} (d:v=.slice (some ⟨g,0,none⟩) n cap):iP (w.setCell ⟨g,i*3+1,none⟩ (.int .i64 x)) T base v (l.set i ⟨(eAt l i).kind,x,(eAt l i).tag⟩):=by
 obtain ⟨g2,h0,y,_⟩:=h.form (fun e=>by rw [e] at z;simp at z);rw [d] at y;simp only [Value.slice.injEq,Option.some.injEq,Addr.mk.injEq,and_true] at y;obtain ⟨rfl,rfl,rfl⟩:=y;subst d;have h3:=(World.ownsRow.stored h (i*3+1) (.int .i64 x)).1;unfold iP;rw [List.length_set,<-aFi l z x];exact h3
end
theorem aBM {v:Value} {z:DataW Unit×List MemPlace} (h:plainElem (H:=Unit) prog 4 v=some z):∃ b,v=.bool b/\z=(.lit (.bool b),[]):=by
 unfold plainElem at h;rw [Tryz.underlying4] at h
 cases v<;>simp at h
 exact ⟨_,rfl,h.symm⟩
theorem aRI (w:World):(zeroValue 4).run prog w=.ok (.bool false) w:=by kernel_rfl
def jB (w:World) (y n:Nat) (f:Nat->Bool):Prop:=
 ∃ D:DataW Unit,w.ownsMap prog 3 (plainElem (H:=Unit) prog 4) y n D/\∀ k:Nat,k<n->D.atKey (.int .i64 (k:Int)) (.lit (.bool false))=.lit (.bool (f k))
theorem jB.only {w w':World} {z n:Nat} {f:Nat->Bool} {S:Nat->Prop} (h:jB w z n f) (hg:aI S w w') (hS:¬ S z):jB w' z n f:=by
 obtain ⟨D,e,hf⟩:=h;have d:=e.lt;obtain ⟨es,y,hb,r⟩:=e;exact ⟨D,⟨es,y,(hg.block z d hS).trans hb,r⟩,hf⟩
theorem jB.lt {w:World} {y n:Nat} {f:Nat->Bool} (h:jB w y n f):y<w.heap.size:=by obtain ⟨D,h,_⟩:=h;exact h.lt
theorem jB.made (w:World) (f:Nat->Bool):jB (w.alloc (.map #[] 0)) w.heap.size 0 f:=
 ⟨.map [],World.ownsMap_made _ _ _ _,fun k y=>by omega⟩
theorem jB.look {w:World} {z n:Nat} {f:Nat->Bool} (h:jB w z n f) {k:Nat} (hk:k<n) (hn:n<=1000000):(Instr.lookup 114 (.map (some z)) (.int .i64 (k:Int)) false).run prog w=.ok (.bool (f k)) w:=by
 obtain ⟨D,hD,hf⟩:=h;obtain ⟨v,ps,d,e⟩:=hD.lookup iE Tryz.underlying114 (aRI w) (plainElem_bool Tryz.underlying4 false) (aLt (dI (k:=(k:Int)) (by omega)));obtain ⟨c,rfl,y⟩:=aBM e;rw [hf k hk] at y;simp at y;rw [d,y.1]
theorem jB.store {w:World} {z n:Nat} {f:Nat->Bool} (h:jB w z n f) (hn:n<1000000) (v:Bool):∃ w',(Instr.mapUpdate 114 (.map (some z)) (.int .i64 (n:Int)) (.bool v)).run prog w=.ok () w'/\jB w' z (n+1) (fun j=>if j=n then v else f j)/\w.grownBy w' (some z):=by
 obtain ⟨D,d,hf⟩:=h;have y:wfI (n:Int):=dI (by omega);obtain ⟨w',h1,h2,h3⟩:=d.update iE Tryz.underlying114 (by simp only [maxLen];omega) (aLt y) (plainElem_bool Tryz.underlying4 v);have hm:=d.isMap;refine ⟨w',h1,⟨_,h2,fun j hj=>?_⟩,h3⟩
 by_cases e:j=n
 ·subst e;show _=DataW.lit (Lit.bool (if j=j then v else f j));rw [if_pos rfl];exact Maps.atKey_put_same hm (zD _ y) _ _
 show _=DataW.lit (Lit.bool (if j=n then v else f j));rw [if_neg e,Maps.atKey_put_other (pW (by omega))];exact hf j (by omega)
structure mZ (w:World) (b:Nat) (ev qv:Value) (mo:Option Nat) (t:Tb) (kk:Nat):Prop where
 row:∃ U,Row w b U [.bool true,ev,qv,.int .i64 (t.ph:Int),.int .i64 (t.nx:Int),.map mo]
 ents:iP w 123 0 ev t.ents
 q:aN w 0 qv t.q
 fnd:∀ mb,mo=some mb->∃ n f,jB w mb n f/\n<=20/\(t.ph=2->kk<=n/\∀ i,i<kk->f i=t.fd i)
 two:t.ph=2->0<kk->mo≠none
 n1:∀ g,ev.ownBlock=some g->g≠b/\mo≠some g/\qv.ownBlock≠some g
 n2:∀ g,qv.ownBlock=some g->g≠b/\mo≠some g
 n3:mo≠some b
def TbA (b:Nat) (t:Tb) (kk:Nat):Asn:=
 ⟨fun w S=>∃ z qv mo,mZ w b z qv mo t kk/\∀ k,S k↔(k=b\/z.ownBlock=some k\/qv.ownBlock=some k\/mo=some k),
  fun ⟨z,qv,mo,h,y⟩ ho hd=>⟨z,qv,mo,⟨h.row.imp fun U x=>ho.row x (fun x=>hd b x ((y b).2 (.inl rfl))),h.ents.dB ho (fun k d x=>hd k x ((y k).2 (.inr (.inl d)))),h.q.dB ho (fun k d x=>hd k x ((y k).2 (.inr (.inr (.inl d))))),
   fun mb e=>by
    obtain ⟨n,f,h1,h2⟩:=h.fnd mb e;exact ⟨n,f,h1.only ho (fun x=>hd mb x ((y mb).2 (.inr (.inr (.inr e))))),h2⟩,h.two,h.n1,h.n2,h.n3⟩,y⟩,
  fun ⟨z,qv,mo,h,y⟩ d=>by
   rcases (y _).1 d with e|e|e|e
   ·obtain ⟨U,hr⟩:=h.row;rw [e];exact hr.lt
   ·exact (h.ents.own _ e).2
   ·exact (h.q.own _ e).2
   obtain ⟨n,f,h1,_⟩:=h.fnd _ e;exact h1.lt⟩
def aAI (t:Tb) (next:Nat):Prop:=(t.ph=1->nxt t.ents 1 next=nxt t.ents 1 t.nx)/\(t.ph=2->nxt t.ents 2 next=nxt t.ents 2 t.nx)/\(t.ph=4->nxt t.ents 3 next=nxt t.ents 3 t.nx)
structure lC (w:World) (b:Nat) (ev qv wv:Value) (nx:Nat) (wl:List Bool) (t:Tb):Prop where
 row:∃ U,Row w b U [ev,qv,.int .i64 (t.ph:Int),.int .i64 (nx:Int),wv]
 ents:iP w 48 0 ev t.ents
 q:aN w 0 qv t.q
 wh:Bls w 0 wv wl
 now:aAI t nx
 two:wl.length<=20/\(t.ph=2->wl.length=t.ents.length/\∀ i,i<t.ents.length->(eAt t.ents i).kind=2->gB wl i=t.fd i)
 n1:∀ g,ev.ownBlock=some g->g≠b/\wv.ownBlock≠some g/\qv.ownBlock≠some g
 n2:∀ g,qv.ownBlock=some g->g≠b/\wv.ownBlock≠some g
 n3:wv.ownBlock≠some b
def TrA (b:Nat) (t:Tb):Asn:=
 ⟨fun w S=>∃ d qv wv nx wl,lC w b d qv wv nx wl t/\∀ k,S k↔(k=b\/d.ownBlock=some k\/qv.ownBlock=some k\/wv.ownBlock=some k),
  fun ⟨d,qv,wv,nx,wl,h,y⟩ ho hd=>⟨d,qv,wv,nx,wl,⟨h.row.imp fun U x=>ho.row x (fun x=>hd b x ((y b).2 (.inl rfl))),h.ents.dB ho (fun k z x=>hd k x ((y k).2 (.inr (.inl z)))),h.q.dB ho (fun k z x=>hd k x ((y k).2 (.inr (.inr (.inl z))))),
   h.wh.dB ho (fun k z x=>hd k x ((y k).2 (.inr (.inr (.inr z))))),h.now,h.two,h.n1,h.n2,h.n3⟩,y⟩,
  fun ⟨d,qv,wv,nx,wl,h,y⟩ z=>by
   rcases (y _).1 z with e|e|e|e
   ·obtain ⟨U,hr⟩:=h.row;rw [e];exact hr.lt
   ·exact (h.ents.own _ e).2
   ·exact (h.q.own _ e).2
   exact (h.wh.own _ e).2⟩
def PL (l:List Asn) (i j k hb p b:Nat) (m:Mk) (t:Tb) (kk:Nat):List Asn:=ML (l.set k (TbA b t kk)) i j hb p m
structure Three (l:List Asn) (i j k:Nat):Prop where
 two:gZ l i j
 hk:k<l.length
 ki:k≠i
 kj:k≠j
theorem gZ.put {l:List Asn} {i j:Nat} (h:gZ l i j) (k:Nat) (A:Asn):gZ (l.set k A) i j:=⟨by rw [List.length_set];exact h.hi,by rw [List.length_set];exact h.hj,h.ne⟩
theorem Three.t2 {l:List Asn} {i j k:Nat} (h:Three l i j k) {A:Asn}:gZ (l.set k A) i j:=h.two.put k A
section
variable {l:List Asn} {i j k hb p b:Nat} {m:Mk} {t:Tb} {kk:Nat} {w0 w w':World}
theorem PL.self (h:Three l i j k):(PL l i j k hb p b m t kk)[k]?=some (TbA b t kk):=by
 unfold PL ML;rw [List.getElem?_set_ne (Ne.symm h.kj),List.getElem?_set_ne (Ne.symm h.ki),List.getElem?_set_self h.hk]
theorem PL.put (h:Three l i j k) (t':Tb) (y:Nat):(PL l i j k hb p b m t kk).set k (TbA b t' y)=PL l i j k hb p b m t' y:=by
 unfold PL ML;rw [List.set_comm _ _ (Ne.symm h.kj),List.set_comm _ _ (Ne.symm h.ki),List.set_set]
theorem mZ.same {ev qv y d:Value} {mo z:Option Nat} {t2:Tb} {k2:Nat} (h:mZ w b ev qv mo t kk) (h2:mZ w b y d z t2 k2):y=ev/\d=qv/\z=mo:=by
 obtain ⟨U,e⟩:=h.row;obtain ⟨U2,h4⟩:=h2.row;have e1:=(e.cell 1 rfl).symm.trans (h4.cell 1 rfl);have e2:=(e.cell 2 rfl).symm.trans (h4.cell 2 rfl);have e3:=(e.cell 5 rfl).symm.trans (h4.cell 5 rfl);simp at e1 e2 e3;exact ⟨e1.symm,e2.symm,e3.symm⟩
theorem PL.tb (h:Three l i j k) (hf:Fam w0 w (PL l i j k hb p b m t kk)):∃ y d z,mZ w b y d z t kk:=by
 obtain ⟨S,⟨y,d,z,e,_⟩,_⟩:=hf.get k (PL.self h);exact ⟨y,d,z,e⟩
def tbS (b:Nat) (y d:Value) (z:Option Nat) (x:Nat):Prop:=x=b\/y.ownBlock=some x\/d.ownBlock=some x\/z=some x
theorem PL.tbT (h:Three l i j k) (hf:Fam w0 w (PL l i j k hb p b m t kk)) {ev qv:Value} {mo:Option Nat} (hm:mZ w b ev qv mo t kk) (y d:Value) (z:Option Nat) (t':Tb) (e:Nat) (h1:mZ w' b y d z t' e)
  (h2:∀ x,tbS b y d z x->tbS b ev qv mo x\/w.heap.size<=x) (h3:aI (tbS b ev qv mo) w w'):Fam w0 w' (PL l i j k hb p b m t' e):=by
 rw [<-PL.put h t' e (t:=t) (kk:=kk)];refine hf.turn k (PL.self h) fun S hS=>?_;obtain ⟨h4,h6,h5,h0,hS⟩:=hS;obtain ⟨rfl,rfl,rfl⟩:=hm.same h0;exact ⟨tbS b y d z,⟨y,d,z,h1,fun k=>Iff.rfl⟩,fun k hk=>(h2 k hk).imp (fun x=>(hS k).2 x) id,h3.mono (fun k hk=>.inl ((hS k).2 hk))⟩
theorem mZ.cells {y d:Value} {z:Option Nat} (h:mZ w b y d z t kk):w.cell? ⟨b,0,none⟩=some (.bool true)/\w.cell? ⟨b,1,none⟩=some y/\w.cell? ⟨b,2,none⟩=some d/\w.cell? ⟨b,3,none⟩=some (.int .i64 (t.ph:Int))/\w.cell? ⟨b,4,none⟩=some (.int .i64 (t.nx:Int))/\w.cell? ⟨b,5,none⟩=some (.map z)/\∀ k,w.frozen? ⟨b,k,none⟩=false:=by
 obtain ⟨U,h⟩:=h.row;exact ⟨h.cell 0 rfl,h.cell 1 rfl,h.cell 2 rfl,h.cell 3 rfl,h.cell 4 rfl,h.cell 5 rfl,fun k=>h.free k⟩
theorem mZ.rest {ev qv:Value} {mo:Option Nat} (h:mZ w b ev qv mo t kk) (d:Only [b] w w'):iP w' 123 0 ev t.ents/\aN w' 0 qv t.q/\∀ y,mo=some y->∃ n f,jB w' y n f/\n<=20/\(t.ph=2->kk<=n/\∀ i,i<kk->f i=t.fd i):=
 ⟨h.ents.only d (fun g z x=>(h.n1 g z).1 (by simpa using x)),h.q.only d (fun g z x=>(h.n2 g z).1 (by simpa using x)),fun y e=>by
  obtain ⟨n,f,h1,h2⟩:=h.fnd y e;refine ⟨n,f,h1.only (d.toP (S:=fun x=>x=b) (fun x hx=>.inl (by simpa using hx))) (fun x=>h.n3 (by rw [e,x])),h2⟩⟩
theorem mZ.aK {y e:Value} {d:Option Nat} (h:mZ w b y e d t kk) (z:Only [] w w'):mZ w' b y e d t kk:=by
 obtain ⟨h1,h2,h3⟩:=h.rest (z.mono (by simp));exact ⟨h.row.imp fun U x=>z.row x (by simp),h1,h2,h3,h.two,h.n1,h.n2,h.n3⟩
theorem PL.aCH (h:Three l i j k) (z:Fam w0 w (PL l i j k hb p b m t kk)) (n:Nat):Fam w0 (w.setCell ⟨b,4,none⟩ (.int .i64 (n:Int))) (PL l i j k hb p b m (t.at t.ph n) kk):=by
 obtain ⟨e,qv,mo,y⟩:=PL.tb h z;have d:Only [b] w (w.setCell ⟨b,4,none⟩ (.int .i64 (n:Int))):=(Only.refl _ w).set (.inl (by simp)) _;obtain ⟨h1,h2,h3⟩:=y.rest d;exact PL.tbT h z y e qv mo _ _ ⟨y.row.imp fun U x=>x.set 4 _,h1,h2,h3,y.two,y.n1,y.n2,y.n3⟩ (fun x hx=>.inl hx) (d.toP (fun x hx=>.inl (.inl (by simpa using hx))))
theorem PL.tY (h:Three l i j k) (z:Fam w0 w (PL l i j k hb p b m t kk)) (n:Nat):Fam w0 (w.setCell ⟨b,3,none⟩ (.int .i64 (n:Int))) (PL l i j k hb p b m (t.at n t.nx) 0):=by
 obtain ⟨ev,qv,mo,y⟩:=PL.tb h z;have d:Only [b] w (w.setCell ⟨b,3,none⟩ (.int .i64 (n:Int))):=(Only.refl _ w).set (.inl (by simp)) _;obtain ⟨h1,h2,h3⟩:=y.rest d;exact PL.tbT h z y ev qv mo _ _ ⟨y.row.imp fun U x=>x.set 3 _,h1,h2,fun mb e=>by
  obtain ⟨n,f,h4,h5,_⟩:=h3 mb e;exact ⟨n,f,h4,h5,fun _=>⟨Nat.zero_le _,fun i hi=>by omega⟩⟩,fun _ x=>absurd x (by omega),y.n1,y.n2,y.n3⟩ (fun x hx=>.inl hx) (d.toP (fun x hx=>.inl (.inl (by simpa using hx))))
theorem PL.aSS (h:Three l i j k) (d:Fam w0 w (PL l i j k hb p b m t kk)) (hp:t.ph≠2) (z:Nat) (fd:Nat->Bool):Fam w0 w (PL l i j k hb p b m ⟨t.ents,t.q,t.ph,t.nx,fd⟩ z):=by
 obtain ⟨ev,qv,mo,y⟩:=PL.tb h d;exact PL.tbT h d y ev qv mo _ _ ⟨y.row,y.ents,y.q,fun mb e=>by
  obtain ⟨n,f,h4,h5,_⟩:=y.fnd mb e;exact ⟨n,f,h4,h5,fun e=>absurd e hp⟩,fun x=>absurd x hp,y.n1,y.n2,y.n3⟩ (fun x hx=>.inl hx) (aI.refl _ _)
theorem PL.fd0 (h:Three l i j k) (z:Fam w0 w (PL l i j k hb p b m t 0)) (fd:Nat->Bool):Fam w0 w (PL l i j k hb p b m ⟨t.ents,t.q,t.ph,t.nx,fd⟩ 0):=by
 obtain ⟨d,qv,mo,y⟩:=PL.tb h z;exact PL.tbT h z y d qv mo _ _ ⟨y.row,y.ents,y.q,fun mb e=>by
  obtain ⟨n,f,h4,h5,h6⟩:=y.fnd mb e;exact ⟨n,f,h4,h5,fun e=>⟨Nat.zero_le _,fun i hi=>by omega⟩⟩,fun _ x=>absurd x (by omega),y.n1,y.n2,y.n3⟩ (fun x hx=>.inl hx) (aI.refl _ _)
theorem PL.aPY (h:Three l i j k) (z:Fam w0 w (PL l i j k hb p b m t kk)):Fam w0 ((w.alloc (.map #[] 0)).setCell ⟨b,5,none⟩ (.map (some w.heap.size))) (PL l i j k hb p b m t 0):=by
 obtain ⟨ev,qv,mo,y⟩:=PL.tb h z;have h4:Only [] w (w.alloc (.map #[] 0)):=(Only.refl _ w).alloc _;have d:Only [b] w ((w.alloc (.map #[] 0)).setCell ⟨b,5,none⟩ (.map (some w.heap.size))):=((Only.refl _ w).alloc _).set (.inl (by simp)) _;obtain ⟨h1,h2,h3⟩:=y.rest d;have h0:b<w.heap.size:=by obtain ⟨U,hr⟩:=y.row;exact hr.lt
 refine PL.tbT h z y ev qv (some w.heap.size) _ _ ⟨y.row.imp fun U x=>(x.alloc _).set 5 _,h1,h2,fun mb e=>?_,fun _ x=>absurd x (by omega),fun g hg=>⟨(y.n1 g hg).1,fun e=>?_,(y.n1 g hg).2.2⟩,fun g hg=>⟨(y.n2 g hg).1,fun e=>?_⟩,fun e=>?_⟩ (fun x hx=>?_) (d.toP (fun x hx=>.inl (.inl (by simpa using hx))))
 ·cases e
  have hq:Only [b] (w.alloc (.map #[] 0)) ((w.alloc (.map #[] 0)).setCell ⟨b,5,none⟩ (.map (some w.heap.size))):=(Only.refl _ _).set (.inl (by simp)) _;exact ⟨0,t.fd,(jB.made w t.fd).only (hq.toP (S:=fun x=>x=b) (fun x hx=>.inl (by simpa using hx))) (fun x=>by omega),by omega,fun _=>⟨Nat.le_refl _,fun i hi=>rfl⟩⟩
 ·cases e;have:=(y.ents.own _ hg).2;omega
 ·cases e;have:=(y.q.own _ hg).2;omega
 ·cases e;omega
 rcases hx with hx|hx|hx|hx
 ·exact .inl (.inl hx)
 ·exact .inl (.inr (.inl hx))
 ·exact .inl (.inr (.inr (.inl hx)))
 cases hx;exact .inr (Nat.le_refl _)
theorem PL.aPZ (h:Three l i j k) (hf:Fam w0 w (PL l i j k hb p b m t kk)) {ev qv:Value} {z:Nat} (y:mZ w b ev qv (some z) t kk) {f:Nat->Bool} (hm:jB w z kk f) (h0:∀ i,i<kk->f i=t.fd i) (hk:kk<20):∃ w',(Instr.mapUpdate 114 (.map (some z)) (.int .i64 (kk:Int)) (.bool (t.fd kk))).run prog w=.ok () w'/\jB w' z (kk+1) (fun j=>if j=kk then t.fd kk else f j)/\Only [z] w w'/\Fam w0 w' (PL l i j k hb p b m t (kk+1))/\mZ w' b ev qv (some z) t (kk+1):=by
 obtain ⟨w',h1,h2,h3⟩:=hm.store (by omega) (t.fd kk);have d:Only [z] w w':=(Only.refl _ w).grown h3 (fun x hx=>.inl (by simp at hx;simp [hx]));have hT:mZ w' b ev qv (some z) t (kk+1):=⟨y.row.imp fun U x=>d.row x (by have:=y.n3;simp at this ⊢;exact fun e=>this e.symm),y.ents.only d (fun g hg x=>(y.n1 g hg).2.1 (by simp at x;rw [x])),y.q.only d (fun g hg x=>(y.n2 g hg).2 (by simp at x;rw [x])),fun h4 e=>by
   cases e
   refine ⟨kk+1,_,h2,by omega,fun _=>⟨Nat.le_refl _,fun i hi=>?_⟩⟩
   by_cases e:i=kk
   ·subst e;exact if_pos rfl
   show (if i=kk then t.fd kk else f i)=_;rw [if_neg e];exact h0 i (by omega),fun _ _=>by simp,y.n1,y.n2,y.n3⟩
 exact ⟨w',h1,h2,d,PL.tbT h hf y ev qv (some z) _ _ hT (fun x hx=>.inl hx) (d.toP (fun x hx=>.inl (.inr (.inr (.inr (by simp at hx;rw [hx])))))),hT⟩
end
section
variable {l:List Asn} {i j k hb p b:Nat} {m:Mk} {t:Tb} {kk:Nat} {w0 w:World}
theorem aCA (w:World):Calls prog 73 #[.pointer none] w (aO w (.bool true)):=by
 refine aF fun R y=>?_;go_in;go_wp2;exact y.o _ _ ⟨rfl,rfl⟩
theorem eG (w:World) {b:Nat} (h:w.cell? ⟨b,0,none⟩=some (.bool true)):Calls prog 73 #[.pointer (some ⟨b,0,none⟩)] w (aO w (.bool false)):=by
 refine aF fun R y=>?_;go_in;go_wp2;exact y.o _ _ ⟨rfl,rfl⟩
theorem aPF (w:World):Calls prog 22 #[.pointer none] w (aO w (.int .i64 0)):=by
 refine aF fun R y=>?_;go_in;go_wp2_with fail;refine (aCA _).mono ?_;rintro e _ ⟨rfl,rfl⟩;go_wp2;exact y.o _ _ ⟨rfl,rfl⟩
theorem aKb:(prog.info? 123).map (fun i=>(i.zero,i.size,i.bytes))=some (some (.agg #[.int .i64 0,.int .i64 0,.int .i64 0]),3,24):=by kernel_rfl
theorem aJe:(prog.info? 123).map (·.size)=some 3:=by kernel_rfl
theorem aAb {w:World} {e:Nat} {x y z:Value} {U:Nat} (h:Row w e U [x,y,z]) {fn:Func} {p u:Tmp} (hr:fn.results=#[.cell p 123,.tmp u]) (d:Array Value) (hp:d.getD p undef=.pointer (some ⟨e,0,none⟩)):(results fn d).run prog w=.ok (.tuple #[.agg #[x,y,z],d.getD u undef]) w:=by
 have hl:=nN (P:=prog) w e 0 123 [x,y,z] _ Tryz.underlying123 rfl aJe (fun j v hv=>by rw [Nat.zero_add];exact h.cell j hv);rw [results_cell_tmp hr,hp];simp [asAddr,Result.andThen,hl]
def enV (e:En):Value:=.agg #[.int .i64 e.kind,.int .i64 e.tgt,.int .i64 e.tag]
def En.nil:En:=⟨0,0,0⟩
def Tb.entry (t:Tb) (n:Int):En×Int:=if n<0\/(t.ents.length:Int)<=n then (En.nil,1) else (eAt t.ents n.toNat,0)
theorem aOk (w:World) {ev qv:Value} {mo:Option Nat} (h:mZ w b ev qv mo t kk) (n:Int):Calls prog 77 #[.pointer (some ⟨b,0,none⟩),.int .i64 n] w (fun e w'=>e=.returned (.tuple #[enV (t.entry n).1,.int .i64 (t.entry n).2])/\Only [] w w'):=by
 refine aF fun R hR=>?_;have HO:Hid (Only [] w (w.alloc (.cells #[.int .i64 0,.int .i64 0,.int .i64 0] 123))):=(Only.refl [] w).alloc _;have z:Hid (Row (w.alloc (.cells #[.int .i64 0,.int .i64 0,.int .i64 0] 123)) w.heap.size 123 [.int .i64 0,.int .i64 0,.int .i64 0]):=Row.new w _ _;have h1:=h.aK HO.o;obtain ⟨z0,z1,z2,z3,z4,z5,_⟩:=h1.cells;have hn:=eG _ z0;have HE:=aA h1.ents;clear h h1 z2 z3 z4 z5;unfold Tb.entry at hR;obtain ⟨a,c,rfl⟩:=HE.o.len;have f0:=z.o.free 0;have f1:=z.o.free 1;have f2:=z.o.free 2;have y0:=z.o.cell 0 rfl;have y1:=z.o.cell 1 rfl;have y2:=z.o.cell 2 rfl
 by_cases hb:n<0\/(t.ents.length:Int)<=n
 ·rw [if_pos hb] at hR
  by_cases h2:n<0
  ·generalize t.ents.length=h0 at*;clear hb;go_in;go_wp2_with fail;go_fit hn;rintro e _ ⟨rfl,rfl⟩;clear hn;generalize d:w.heap.size=rb at*;have y:=aA d;clear d;generalize w.alloc (.cells #[.int .i64 0,.int .i64 0,.int .i64 0] 123)=w1 at*;go_wp2;refine bodyPost_ret (aAb (((z.o.set 0 _).set 1 _).set 2 _) rfl _ rfl) rfl ?_;refine hR.o _ _ ⟨rfl,?_⟩;exact ((HO.o.set (.inr (by show _<=rb;rw [y.o];exact Nat.le_refl _)) _).set (.inr (by show _<=rb;rw [y.o];exact Nat.le_refl _)) _).set (.inr (by show _<=rb;rw [y.o];exact Nat.le_refl _)) _
  have h4:(t.ents.length:Int)<=n:=hb.resolve_left h2;generalize t.ents.length=h0 at*;clear hb;go_in;go_wp2_with fail;go_fit hn;rintro e _ ⟨rfl,rfl⟩;clear hn;generalize d:w.heap.size=rb at*;have y:=aA d;clear d;generalize w.alloc (.cells #[.int .i64 0,.int .i64 0,.int .i64 0] 123)=w1 at*;go_wp2;refine bodyPost_ret (aAb (((z.o.set 0 _).set 1 _).set 2 _) rfl _ rfl) rfl ?_;refine hR.o _ _ ⟨rfl,?_⟩;exact ((HO.o.set (.inr (by show _<=rb;rw [y.o];exact Nat.le_refl _)) _).set (.inr (by show _<=rb;rw [y.o];exact Nat.le_refl _)) _).set (.inr (by show _<=rb;rw [y.o];exact Nat.le_refl _)) _
 rw [if_neg hb] at hR;obtain ⟨k,rfl⟩:∃ k:Nat,n=k:=⟨n.toNat,by omega⟩;have h3:k<t.ents.length:=by omega
 obtain ⟨g,c2,hv,hg,hc,q0,q1,q2,_⟩:=HE.o.at h3;rw [Int.toNat_natCast] at hR;have h5:(0:Int)<=k:=by omega
 have h6:(k:Int)<t.ents.length:=by omega
 simp only [Value.slice.injEq,true_and] at hv;obtain ⟨rfl,rfl⟩:=hv;have HQ:Hid (∀ j v,[Value.int .i64 (eAt t.ents k).kind,.int .i64 (eAt t.ents k).tgt,.int .i64 (eAt t.ents k).tag][j]?=some v->(w.alloc (.cells #[.int .i64 0,.int .i64 0,.int .i64 0] 123)).cell? ⟨g,k*3+j,none⟩=some v):=fun j v hv=>by
  match j,hv with
  | 0,hv=>cases hv;exact q0
  | 1,hv=>cases hv;exact q1
  | 2,hv=>cases hv;exact q2
  | j+3,hv=>simp at hv
 unfold enV at hR;generalize eAt t.ents k=en at*;generalize t.ents.length=h0 at*;clear hb q0 q1 q2;go_in;go_wp2_with fail;go_fit hn;rintro e _ ⟨rfl,rfl⟩;clear hn;generalize d:w.heap.size=rb at*;have y:=aA d;clear d;generalize w.alloc (.cells #[.int .i64 0,.int .i64 0,.int .i64 0] 123)=w1 at*;go_wp2_with (refine fB rfl 123 _ rfl g (k*3) rfl [.int .i64 en.kind,.int .i64 en.tgt,.int .i64 en.tag] _ Tryz.underlying123 rfl aJe HQ.o ?_);refine bodyPost_ret (aAb (((z.o.set 0 _).set 1 _).set 2 _) rfl _ rfl) rfl ?_;refine hR.o _ _ ⟨rfl,?_⟩;exact ((HO.o.set (.inr (by show _<=rb;rw [y.o];exact Nat.le_refl _)) _).set (.inr (by show _<=rb;rw [y.o];exact Nat.le_refl _)) _).set (.inr (by show _<=rb;rw [y.o];exact Nat.le_refl _)) _
end
theorem qX {P:Program} {w:World} {ops:Array Oper} {d:List Oper} {o:Oper} {a:Act} {Q:Exit->Act->World->Prop} (h5:o.guard=none) (s x:Operand) (t:TypeId)
  (ho:o.op=.call { callee:=.builtin .append,args:=#[s,x],argTypes:=#[t,t] })
  (e:TypeId) (i:TypeInfo) (ht:P.underlying t=some (.slice e)) (hi:P.info? e=some i) (h0:i.size=1)
  (g n cap:Nat) (z:Array Value) (hg:w.heap[g]?=some (.cells z e (0,0))) (hs:a.eval s=.slice (some ⟨g,0,none⟩) n cap)
  (ad:Addr) (m c:Nat) (y:List Value) (hx:a.eval x=.slice (some ad) m c) (hl:y.length=m) (h2:∀ j u,y[j]?=some u->w.cell? (ad.add j)=some u) (h1:∀ u∈y,u.oneCell'=true)
  (h3:n+m<=cap) (h4:n+m<=z.size)
  (h:wpList P ops Q d (a.put o.dst (.slice (some ⟨g,0,none⟩) (n+m) cap)) (w.setRow g (z.toList.take n ++ y ++ z.toList.drop (n+m)).toArray)):wpList P ops Q (o :: d) a w:=by
 refine wpList_plain h5 fun K hK=>?_;have hr:=run_append_room (P:=P) w t o.type e i ht hi g n cap z hg ad m c y (by rw [hl,h0,Nat.mul_one]) h2 h1 h3 (by rw [hl,h0,Nat.mul_one];exact h4);rw [h0,Nat.mul_one,hl] at hr;unfold Oper.wp;simp only [execOp,ho,resolve,invoke,builtin,Sem.run_bind,Sem.run_pure,Result.andThen_ok,List.map_toArray,List.map_cons,List.map_nil,hs,hx,hr];exact hK _ _ h
theorem aNe (w:World) (base:Nat) (v:Value) (x:Int) (l:List Int) (hI:aN w base v (x :: l)) (hl:l.length<=1000000) :
  Calls prog 197 #[v,.int .i64 0,.int .i64 1] w fun e w'=>∃ v',e=.returned v'/\aN w' base v' l/\v'.ownBlock=v.ownBlock/\Only v.ownBlock.toList w w':=by
 refine aF fun R hR=>?_;rcases hI.form with ⟨_,h0⟩|⟨g,cap,rfl,x5,y4,h9,hc⟩
 ·simp at h0
 obtain ⟨_,_,cs,h3,h7,h5,h9,h8⟩:=hI.row;have y0:cap<=9223372036854775807:=h8;obtain ⟨n,hn⟩:∃ n,n=l.length:=⟨_,rfl⟩;have h1:(x :: l).length=n+1:=by simp [hn]
 rw [h1] at h9 h5 hR ⊢;have qR:=aA h3;have x3:=aA h5;have HN:=aA hn;have h6:=aA h7;clear hI h3 h5 hn h7 hc h1;have b1:(0:Int)<=(n:Int)+1:=by omega
 have b2:(1:Int)<=(n:Int)+1:=by omega
 have b3:(n:Int)+1<=cap:=by omega
 go_in;go_wp2_with fail;go_still_tail 6,(by kernel_rfl);change wpList _ _ _ _ _ w.drew;have x7:(if cap=1 then (some ⟨g,0,none⟩:Option Addr) else some ⟨g,1,none⟩)=some ⟨g,if cap=1 then 0 else 1,none⟩:=by split<;>rfl
 rw [x7];obtain ⟨i0,hi,y5,x9,y6⟩:=info_parts jO;have z:w.drew.heap[g]?=some (.cells cs.toArray 3 (0,0)):=qR.o;refine qX rfl _ _ 23 rfl 3 i0 Tryz.underlying23 hi x9 g 0 cap cs.toArray z rfl ⟨g,if cap=1 then 0 else 1,none⟩ n (cap - 1) (l.map (.int .i64)) rfl (by simp [HN.o]) (fun j u hu=>?_) (fun u hu=>?_) (by omega) (by simp [h6.o];omega) ?_
 ·have hj:j<l.length:=by
   have:=(List.getElem?_eq_some_iff.1 hu).1;simpa using this
  have x6:cap≠1:=by have:=HN.o;omega
  rw [if_neg x6,dN];refine (qR.o.drew).cell (1+j) ?_;have h2:(cs.take (n+1))[1+j]?=cs[1+j]?:=by rw [List.getElem?_take_of_lt (by have:=HN.o;omega)]
  rw [<-h2,x3.o,Nat.add_comm 1 j];exact hu
 ·simp only [List.mem_map] at hu;obtain ⟨y,_,rfl⟩:=hu;rfl
 have d:cs.toArray.toList.take 0 ++ l.map (.int .i64) ++ cs.toArray.toList.drop (0+n)=l.map (.int .i64) ++ cs.drop n:=by simp
 rw [d];have R2:Hid (Row (w.drew.setRow g (l.map (Value.int .i64) ++ cs.drop n).toArray) g 3 (l.map (Value.int .i64) ++ cs.drop n)):=setRow_heap _ g cs.toArray _ _ (0,0) z;have h4:Hid ((l.map (Value.int .i64) ++ cs.drop n).length=cap):=by show _=_;have:=HN.o;have:=h6.o;simp;omega
 have O2:Hid (Only [g] w (w.drew.setRow g (l.map (Value.int .i64) ++ cs.drop n).toArray)):=⟨rfl,rfl,rfl,by show _<=(w.heap.modify g _).size;rw [Array.size_modify];exact Nat.le_refl _,fun k hk hn=>setRow_other _ g k _ (by simpa using hn)⟩;have x4:Hid (∀ m,m<n->(l.map (Value.int .i64) ++ cs.drop n)[m]?=some (.int .i64 (gI l m))):=fun m hm=>by
  have:=HN.o;rw [List.getElem?_append_left (by simp;omega),List.getElem?_map];unfold gI;rw [List.getElem?_eq_getElem (by omega)];rfl
 generalize w.drew.setRow g (l.map (Value.int .i64) ++ cs.drop n).toArray=w2 at*;generalize l.map (Value.int .i64) ++ cs.drop n=y3 at*;generalize (if cap=1 then 0 else 1:Nat)=y1 at*;clear z d;have b4:(0:Int)<=(n:Int):=by omega
 have b5:(n:Int)<=(n:Int)+1:=by omega
 have x8:0+n=n:=by omega
 rw [x8];have x1:Hid (∀ m,m<1->(w2.cell? ⟨g,n+m,none⟩).isSome=true):=fun m hm=>by
  rw [R2.o.cell (n+m) (List.getElem?_eq_getElem (by rw [h4.o];omega))];rfl
 have x2:Hid (∀ m,m<1->w2.frozen? ⟨g,n+m,none⟩=false):=fun m hm=>R2.o.free _;go_wp2_with (with_reducible refine jF rfl (.tmp 31) 23 3 rfl (.int .i64 0) Tryz.underlying23 aBw rfl rfl g n 1 (cap - n) rfl (by omega) x1.o x2.o ?_);obtain ⟨y2,q1,q2,q3⟩:=R2.o.setCells' [Value.int .i64 0] n;have Q1:=aA q1;have Q2:=aA q2;have Q3:=aA q3;have QO:Hid (Only [g] w (w2.setCells g n [Value.int .i64 0])):=O2.o.setCells (.inl (by simp)) _ _;clear q1 q2 q3;generalize w2.setCells g n [Value.int .i64 0]=w3 at*;go_wp2_with fail;have hn:=HN.o;refine hR.o _ _ ⟨_,rfl,?_,rfl,by simpa [Value.ownBlock] using QO.o⟩;rw [hn];exact aN.ofRow x5 Q1.o (by rw [Q2.o];exact h4.o) (nI (by rw [Q2.o,h4.o];omega) (fun m hm=>by rw [Q3.o m (by omega)];exact x4.o m (by omega))) (by omega) h8
section
variable {l:List Asn} {i j k hb p b:Nat} {m:Mk} {t:Tb} {kk:Nat} {w0 w:World}
theorem aEp (w:World) {ev qv:Value} {mo:Option Nat} (h:mZ w b ev qv mo t kk) (n:Int):Calls prog 24 #[.pointer (some ⟨b,0,none⟩),.int .i64 n] w (fun e w'=>e=.returned (.tuple #[.int .i64 (t.target n).1,.int .i64 (t.target n).2])/\Only [] w w'):=by
 refine aF fun R hR=>?_;have hE:t.target n=((t.entry n).1.tgt,(t.entry n).2):=by unfold Tb.target Tb.entry;split<;>rfl
 rw [hE] at hR;have ca:=aOk w h n;unfold enV at ca;clear hE h;generalize t.entry n=r at*;obtain ⟨en,er⟩:=r;obtain ⟨y,z,d⟩:=en;go_in;go_wp2_with fail;go_fit ca;rintro e w1 ⟨rfl,ho⟩;have h0:=aA (ho.alloc (.cells #[.int .i64 y,.int .i64 z,.int .i64 d] 123));have y0:=(Row.new w1 123 [.int .i64 y,.int .i64 z,.int .i64 d]).cell 0 rfl;have y1:=(Row.new w1 123 [.int .i64 y,.int .i64 z,.int .i64 d]).cell 1 rfl;clear ho ca;go_wp2;exact hR.o _ _ ⟨rfl,h0.o⟩
theorem aHu (w:World) (n:Nat):Calls prog 160 #[.int .i64 (n:Int)] w (aO w (.int .i64 (if n=4 then 3 else n:Nat))):=by
 refine aF fun R y=>?_
 by_cases h:n=4
 ·subst h;go_in;go_wp2;exact y.o _ _ ⟨rfl,rfl⟩
 rw [if_neg h] at y;have z:((n:Int) == 4)=false:=by rw [beq_eq_false_iff_ne];omega
 go_in;go_wp2;exact y.o _ _ ⟨rfl,rfl⟩
theorem Mk.aQs (z:m.M.Ok) (x:Int):m.isW x=(decide (x≠0) && (decide ((m.color x).2=0) && decide ((m.color x).1=0))):=by
 unfold Mk.isW Mk.color
 by_cases y:x=0
 ·subst y;rw [aGg z];simp
 cases h:(m.M.ob x).isSome<;>simp [y]
theorem qI (w:World) (T2:gZ l i j) (hf:Fam w0 w (ML l i j hb p m)) (x:Int) (hx:wfI x):Calls prog 151 #[.pointer (some ⟨p,0,none⟩),.int .i64 x] w (Same w (.bool (m.isW x))):=by
 refine aF fun R y=>?_;have d:=uI w T2 hf x hx;obtain ⟨hk,_⟩:=ML.ph T2 hf;rw [Mk.aQs hk] at y;clear hk hf;generalize m.color x=r at*;obtain ⟨c,e⟩:=r
 by_cases h0:x=0
 ·have z:(decide (x≠0) && (decide (e=0) && decide (c=0)))=false:=by simp [h0]
  simp only at y;rw [z] at y;subst h0;go_in;go_wp2_with fail;go_fit d;rintro e _ ⟨rfl,n,rfl⟩;clear d z;go_wp2;exact y.o _ _ ⟨rfl,n,rfl⟩
 have h3:(x != 0)=true:=by simp [h0]
 by_cases h1:e=0
 ·by_cases h2:c=0
  ·have z:(decide (x≠0) && (decide (e=0) && decide (c=0)))=true:=by simp [h0,h1,h2]
   simp only at y;rw [z] at y;subst h1 h2;go_in;go_wp2_with fail;go_fit d;rintro e _ ⟨rfl,n,rfl⟩;clear d z;go_wp2;exact y.o _ _ ⟨rfl,n,rfl⟩
  have z:(decide (x≠0) && (decide (e=0) && decide (c=0)))=false:=by simp [h2]
  simp only at y;rw [z] at y;subst h1;have hc:(c == 0)=false:=by rw [beq_eq_false_iff_ne];exact h2
  go_in;go_wp2_with fail;go_fit d;rintro e _ ⟨rfl,n,rfl⟩;clear d z;go_wp2;exact y.o _ _ ⟨rfl,n,rfl⟩
 have z:(decide (x≠0) && (decide (e=0) && decide (c=0)))=false:=by simp [h1]
 simp only at y;rw [z] at y;have hc:(e == 0)=false:=by rw [beq_eq_false_iff_ne];exact h1
 go_in;go_wp2_with fail;go_fit d;rintro e _ ⟨rfl,n,rfl⟩;clear d z;go_wp2;exact y.o _ _ ⟨rfl,n,rfl⟩
theorem aIK (w:World) (T3:Three l i j k) (hf:Fam w0 w (PL l i j k hb p b m t kk)) (hl:t.q.length<=1000000):Calls prog 124 #[.pointer (some ⟨b,0,none⟩)] w (fun e w'=>e=.returned (.tuple #[.int .i64 t.take.1,.int .i64 t.take.2.1])/\Fam w0 w' (PL l i j k hb p b m t.take.2.2 kk)):=by
 refine aF fun R hR=>?_;obtain ⟨ev,qv,mo,ht⟩:=PL.tb T3 hf;obtain ⟨z0,z1,z2,z3,z4,z5,zf⟩:=ht.cells;have hn:=eG w z0;have y:=aA ht;have HF:=aA hf;unfold Tb.take at hR
 cases e:t.q with
 | nil=>
  rw [e] at hR;have z:=ht.q;rw [e] at z;obtain ⟨a,c,rfl⟩:=z.len;clear ht z hf;replace z2:w.cell? ⟨b,2,none⟩=some (.slice a 0 c):=z2;go_in;go_wp2_with fail;go_fit hn;rintro e _ ⟨rfl,rfl⟩;go_wp2;exact hR.o _ _ ⟨rfl,HF.o⟩
 | cons x r=>
  rw [e] at hR;have z:=ht.q;rw [e] at z;have x1:r.length<=1000000:=by rw [e] at hl;simp at hl;omega
  have cd:=aNe w 0 qv x r z x1;obtain ⟨a,c,x3⟩:=z.len;subst x3;obtain ⟨g,o,rfl,hc⟩:=z.read.at (k:=0) (by simp);rw [Nat.add_zero] at hc;replace hc:w.cell? ⟨g,o,none⟩=some (.int .i64 x):=hc;replace z2:w.cell? ⟨b,2,none⟩=some (.slice (some ⟨g,o,none⟩) (r.length+1) c):=z2;replace cd:Calls prog 197 #[.slice (some ⟨g,o,none⟩) (r.length+1) c,.int .i64 0,.int .i64 1] w fun e w'=>∃ d,e=.returned d/\aN w' 0 d r/\d.ownBlock=(Value.slice (some ⟨g,o,none⟩) (r.length+1) c).ownBlock/\Only (Value.slice (some ⟨g,o,none⟩) (r.length+1) c).ownBlock.toList w w':=cd;obtain ⟨n,h7⟩:∃ n,n=r.length:=⟨_,rfl⟩;rw [<-h7] at z2 cd;have HN:=aA h7;have x4:((n:Int)+1 == 0)=false:=by rw [beq_eq_false_iff_ne];omega
  have x5:(0:Int)<(n:Int)+1:=by omega
  clear z h7 hl x1 ht hf;go_in;go_wp2_with fail;go_fit hn;rintro e _ ⟨rfl,rfl⟩;go_wp2_with fail;go_fit cd;rintro e w2 ⟨d,rfl,h6,h4,ho⟩;have h8:Only [g] w w2:=ho;have h9:g≠b:=(y.o.n2 g rfl).1;have h5:∃ U,Row w2 b U [.bool true,ev,.slice (some ⟨g,o,none⟩) (r.length+1) c,.int .i64 (t.ph:Int),.int .i64 (t.nx:Int),.map mo]:=y.o.row.imp fun U x=>h8.row x (by simp;exact fun e=>h9 e.symm);have hz:w2.cell? ⟨b,2,none⟩=some (.slice (some ⟨g,o,none⟩) (n+1) c)/\w2.frozen? ⟨b,2,none⟩=false:=by
   obtain ⟨U,x⟩:=h5;exact ⟨by rw [HN.o];exact x.cell 2 rfl,x.free 2⟩
  obtain ⟨y2,yf⟩:=hz;have x2:Hid (Fam w0 (w2.setCell ⟨b,2,none⟩ d) (PL l i j k hb p b m ⟨t.ents,r,t.ph,t.nx,t.fd⟩ kk)):=by
   have hs:Only [b] w2 (w2.setCell ⟨b,2,none⟩ d):=(Only.refl _ w2).set (.inl (by simp)) _;have hP:Only [b,g] w (w2.setCell ⟨b,2,none⟩ d):=(h8.mono (by simp)).set (.inl (by simp)) _;have h0:∀ x,d.ownBlock=some x->x=g:=fun x hx=>by rw [h4] at hx;cases hx;rfl
   refine PL.tbT T3 HF.o y.o ev d mo _ _ ⟨h5.imp fun U x=>x.set 2 _,y.o.ents.only hP (fun x hx=>?_),h6.only hs (fun x hx=>?_),fun mb e=>?_,y.o.two,fun x hx=>⟨(y.o.n1 x hx).1,(y.o.n1 x hx).2.1,fun e=>?_⟩,fun x hx=>?_,y.o.n3⟩ (fun x hx=>?_) (hP.toP (fun x hx=>?_))
   ·have:=y.o.n1 x hx;simp only [List.mem_cons,List.not_mem_nil,or_false,not_or];exact ⟨this.1,fun e=>this.2.2 (by rw [e];rfl)⟩
   ·rw [h0 x hx];simpa using h9
   ·obtain ⟨n,f,h1,h2⟩:=y.o.fnd mb e;refine ⟨n,f,h1.only (hP.toP (S:=fun x=>x=b\/x=g) (fun x hx=>.inl (by simpa using hx))) ?_,h2⟩;rintro (rfl|rfl)
    ·exact y.o.n3 e
    exact (y.o.n2 mb rfl).2 e
   ·have h3:=h0 x e;exact (y.o.n1 x hx).2.2 (by rw [h3];rfl)
   ·rw [h0 x hx];exact y.o.n2 g rfl
   ·rcases hx with hx|hx|hx|hx
    ·exact .inl (.inl hx)
    ·exact .inl (.inr (.inl hx))
    ·exact .inl (.inr (.inr (.inl (by rw [h0 x hx];rfl))))
    exact .inl (.inr (.inr (.inr hx)))
   simp only [List.mem_cons,List.not_mem_nil,or_false] at hx;rcases hx with rfl|rfl
   ·exact .inl (.inl rfl)
   exact .inl (.inr (.inr (.inl rfl)))
  obtain ⟨a3,c3,rfl⟩:=h6.len;clear h6 h4 ho h8 h5 cd;generalize r.length=n3 at*;go_wp2;exact hR.o _ _ ⟨rfl,x2.o⟩
end
theorem aLL (w:World):Calls prog 84 #[] w (fun e w'=>e=.returned (.pointer (some ⟨w.heap.size,0,none⟩))/\w'=w.alloc (.cells #[.bool true,.slice none 0 0,.slice none 0 0,.int .i64 0,.int .i64 0,.map none] 119)):=by
 refine aF fun R y=>?_;go_in;go_wp2;exact y.o _ _ ⟨rfl,rfl⟩
theorem aOj (w:World):aGw w (w.alloc (.cells #[.bool true,.slice none 0 0,.slice none 0 0,.int .i64 0,.int .i64 0,.map none] 119)) (TbA w.heap.size Tb.new 0):=
 ⟨(Only.refl [] w).alloc _,fun k=>k=w.heap.size\/(Value.slice none 0 0).ownBlock=some k\/(Value.slice none 0 0).ownBlock=some k\/(none:Option Nat)=some k,⟨.slice none 0 0,.slice none 0 0,none,⟨⟨_,Row.new w _ _⟩,iP.nil _ _ _,aN.nil _ _,fun mb e=>by (cases e),fun _ h=>by omega,fun g hg=>by (cases hg),fun g hg=>by (cases hg),fun e=>by (cases e)⟩,fun k=>Iff.rfl⟩,fun k y=>by
  rcases y with y|y|y|y
  ·omega
  ·cases y
  ·cases y
  cases y⟩
theorem aIu {w:World} {ops:Array Oper} {z:List Oper} {o:Oper} {a:Act} {Q:Exit->Act->World->Prop} (h6:o.guard=none) (s x:Operand)
  (ho:o.op=.call { callee:=.builtin .append,args:=#[s,x],argTypes:=#[117,117] })
  (v:Value) (l:List En) (hs:a.eval s=v) (h0:iP w 123 0 v l)
  (bk U:Nat) (y:En) (hx:a.eval x=.slice (some ⟨bk,0,none⟩) 1 1) (d:Row w bk U (enC y)) (h4:l.length<=1000000)
  (h:∀ e w',iP w' 123 0 e (l ++ [y])->Only v.ownBlock.toList w w'->(e.ownBlock=v.ownBlock\/e.ownBlock=some w.heap.size)->wpList prog ops Q z (a.put o.dst e) w'):wpList prog ops Q (o :: z) a w:=by
 obtain ⟨i0,hi,h7,h8,h9⟩:=info_parts aKb;refine bV h6 s x 117 ho 0 123 i0 _ 3 24 Tryz.underlying117 hi h7 h8 h9 rfl (by decide) v l.length _ hs h0 ⟨bk,0,none⟩ 1 1 (enC y) hx (by simp [enC])
  (fun j u hu=>?_) (fun u hu=>?_) (by simp only [maxLen];omega) (by omega) (Nat.zero_le _) (fun e w' h1 h2 h3 h5=>h e w' ?_ ?_ h5)
 ·rw [dN];exact d.cell _ (by rw [Nat.zero_add];exact hu)
 ·simp only [enC,List.mem_cons,List.not_mem_nil,or_false] at hu;rcases hu with rfl|rfl|rfl<;>rfl
 ·unfold iP;rw [List.length_append,aAc];have:dL [y]=enC y:=by simp [dL]
  rw [this];exact h1
 exact (Only.refl _ _).grown h2 (fun k hk=>.inl (by rw [hk];simp))
theorem aRo (w:World) (z:Value) (kd x g:Int):Calls prog 85 #[.pointer none,z,.int .i64 kd,.int .i64 x,.int .i64 g] w (aO w (.tuple #[.int .i64 0,.int .i64 1])):=by
 refine aF fun R y=>?_;go_in;go_wp2_with fail;refine (aCA _).mono ?_;rintro e _ ⟨rfl,rfl⟩;go_wp2;exact y.o _ _ ⟨rfl,rfl⟩
section
variable {l:List Asn} {i j k hb p b:Nat} {m:Mk} {t:Tb} {kk:Nat} {w0 w:World}
theorem PL.aST (T3:Three l i j k) {ev qv:Value} {mo:Option Nat} (hf:Fam w0 w (PL l i j k hb p b m t kk)) (z:mZ w b ev qv mo t kk) {d:World} {v':Value} {y:En} (he:iP d 123 0 v' (t.ents ++ [y])) (ho:Only ev.ownBlock.toList w d) (h0:v'.ownBlock=ev.ownBlock\/∃ g,v'.ownBlock=some g/\w.heap.size<=g) :
  d.cell? ⟨b,1,none⟩=some ev/\d.frozen? ⟨b,1,none⟩=false/\Fam w0 (d.setCell ⟨b,1,none⟩ v') (PL l i j k hb p b m ⟨t.ents ++ [y],t.q,t.ph,t.nx,t.fd⟩ kk):=by
 have h5:b<w.heap.size:=by obtain ⟨U,hr⟩:=z.row;exact hr.lt
 have h4:∃ U,Row d b U [.bool true,ev,qv,.int .i64 (t.ph:Int),.int .i64 (t.nx:Int),.map mo]:=z.row.imp fun U x=>ho.row x (fun hm=>(z.n1 b (jM hm)).1 rfl);have hP:aI (fun x=>x=b\/ev.ownBlock=some x) w (d.setCell ⟨b,1,none⟩ v'):=((ho.toP (S:=fun x=>x=b\/ev.ownBlock=some x) (fun x hx=>.inl (.inr (jM hx))))).set (.inl (.inl rfl)) _;have hs:Only [b] d (d.setCell ⟨b,1,none⟩ v'):=(Only.refl _ d).set (.inl (by simp)) _;have h3:∀ g,v'.ownBlock=some g->g≠b/\mo≠some g/\qv.ownBlock≠some g:=fun g hg=>by
  rcases h0 with h|⟨g2,h,h2⟩
  ·exact z.n1 g (by rw [<-h];exact hg)
  rw [h] at hg
  cases hg
  refine ⟨by omega,fun e=>?_,fun e=>?_⟩
  ·obtain ⟨n,f,h1,_⟩:=z.fnd _ e;have:=h1.lt;omega
  have:=(z.q.own _ e).2;omega
 obtain ⟨U,hr⟩:=h4;refine ⟨hr.cell 1 rfl,hr.free 1,PL.tbT T3 hf z v' qv mo _ _ ⟨⟨U,hr.set 1 _⟩,he.only hs (fun x hx=>by have:=(h3 x hx).1;simpa using this),z.q.dB hP (fun x hx=>?_),fun mb e=>?_,z.two,h3,z.n2,z.n3⟩ (fun x hx=>?_) (hP.mono (fun x hx=>.inl ?_))⟩
 ·rintro (h|h)
  ·exact (z.n2 x hx).1 h
  exact (z.n1 x h).2.2 hx
 ·obtain ⟨n,f,h1,h2⟩:=z.fnd mb e;refine ⟨n,f,h1.only hP ?_,h2⟩;rintro (h|h)
  ·exact z.n3 (by rw [<-h];exact e)
  exact (z.n1 mb h).2.1 e
 ·rcases hx with hx|hx|hx|hx
  ·exact .inl (.inl hx)
  ·rcases h0 with h|⟨g2,h,h2⟩
   ·exact .inl (.inr (.inl (by rw [<-h];exact hx)))
   rw [h] at hx;cases hx;exact .inr h2
  ·exact .inl (.inr (.inr (.inl hx)))
  exact .inl (.inr (.inr (.inr hx)))
 rcases hx with hx|hx
 ·exact .inl hx
 exact .inr (.inl hx)
theorem aFD (w:World) (T3:Three l i j k) (hf:Fam w0 w (PL l i j k hb p b m t kk)) (kd x g:Int) (hx:wfI x):Calls prog 85 #[.pointer (some ⟨b,0,none⟩),.pointer (some ⟨p,0,none⟩),.int .i64 kd,.int .i64 x,.int .i64 g] w (fun e w'=>e=.returned (.tuple #[.int .i64 (t.add m kd x g).1,.int .i64 (t.add m kd x g).2.1])/\Fam w0 w' (PL l i j k hb p b m (t.add m kd x g).2.2 kk)):=by
 refine aF fun R y=>?_;obtain ⟨ev,qv,mo,ht⟩:=PL.tb T3 hf;obtain ⟨z0,z1,z2,z3,z4,z5,zf⟩:=ht.cells;have hn:=eG w z0;have cc:=uI w T3.t2 hf x hx;have HT:=aA ht;have HF:=aA hf;unfold Tb.add at y;clear z1 z2 z3 z4 z5 zf z0
 by_cases h1:kd<1\/3<kd
 ·rw [if_pos h1] at y;clear hf ht cc
  by_cases h2:kd<1
  ·clear h1;go_in;go_wp2_with fail;go_fit hn;rintro e _ ⟨rfl,rfl⟩;go_wp2;exact y.o _ _ ⟨rfl,HF.o⟩
  have h3:=h1.resolve_left h2;clear h1;go_in;go_wp2_with fail;go_fit hn;rintro e _ ⟨rfl,rfl⟩;go_wp2;exact y.o _ _ ⟨rfl,HF.o⟩
 rw [if_neg h1] at y;have h2:¬ kd<1:=fun h=>h1 (.inl h);have h3:¬ 3<kd:=fun h=>h1 (.inr h);clear h1;have z:m.color x=if (m.M.ob x).isSome then (m.col x,0) else (0,3):=rfl
 by_cases hp:t.ph=0
 rotate_left
 ·rw [if_pos hp] at y;generalize y2:m.color x=r at*;obtain ⟨c1,c2⟩:=r;have x1:c2=0\/c2=3:=by
   split at z<;>cases z
   ·exact .inl rfl
   exact .inr rfl
  have y5:(c2 == 1)=false:=by rcases x1 with h|h<;>rw [h]<;>rfl
  have y6:(0:Int)<(t.ph:Int):=by omega
  have HC:Hid (∀ n,(w.drewN n).cell? ⟨b,3,none⟩=some (.int .i64 (t.ph:Int))):=fun n=>(HT.o.cells).2.2.2.1;clear hf ht z y2 x1 hp;generalize t.ph=ph at*;go_in;go_wp2_with fail;go_fit hn;rintro e _ ⟨rfl,rfl⟩;go_wp2_with fail;go_fit cc;rintro e _ ⟨rfl,n,rfl⟩;have y3:=HC.o n;clear cc;go_wp2;exact y.o _ _ ⟨rfl,HF.o.drewN n⟩
 rw [if_neg (fun h=>h hp)] at y
 cases hs:(m.M.ob x).isSome with
 | false=>
  rw [if_pos hs] at y;rw [z,hs] at cc;have HC:Hid (∀ n,(w.drewN n).cell? ⟨b,3,none⟩=some (.int .i64 0)):=fun n=>by
   have:=(HT.o.cells).2.2.2.1;rw [hp] at this;exact this
  clear hf ht z hp;go_in;go_wp2_with fail;go_fit hn;rintro e _ ⟨rfl,rfl⟩;go_wp2_with fail;go_fit cc;rintro e _ ⟨rfl,n,rfl⟩;have y3:=HC.o n;clear cc;go_wp2;exact y.o _ _ ⟨rfl,HF.o.drewN n⟩
 | true=>
  rw [if_neg (by rw [hs];simp)] at y;rw [z,hs] at cc;obtain ⟨a,c,x2⟩:=HT.o.ents.len;have HC:Hid (∀ n,(w.drewN n).cell? ⟨b,3,none⟩=some (.int .i64 0)):=fun n=>by
   have:=(HT.o.cells).2.2.2.1;rw [hp] at this;exact this
  have h6:Hid (∀ n,(w.drewN n).cell? ⟨b,1,none⟩=some ev):=fun n=>(HT.o.cells).2.1;clear z hp
  by_cases h4:20<=t.ents.length
  ·rw [if_pos h4] at y;have x3:(20:Int)<=(t.ents.length:Int):=by omega
   subst x2;clear hf ht h4;generalize t.ents.length=h5 at*;go_in;go_wp2_with fail;go_fit hn;rintro e _ ⟨rfl,rfl⟩;go_wp2_with fail;go_fit cc;rintro e _ ⟨rfl,n,rfl⟩;have y3:=HC.o n;have y1:=h6.o n;clear cc;go_wp2;exact y.o _ _ ⟨rfl,HF.o.drewN n⟩
  rw [if_neg h4] at y;have x3:¬ (20:Int)<=(t.ents.length:Int):=by omega
  have x4:t.ents.length<=1000000:=by omega
  have x9:=aA x4;have HE:=aA HT.o.ents;subst x2;clear hf ht h4 x4;obtain ⟨h5,h0⟩:∃ n,n=t.ents.length:=⟨_,rfl⟩;rw [<-h0] at y x3 h6;have d:=aA h0;clear h0;go_in;go_wp2_with fail;go_fit hn;rintro e _ ⟨rfl,rfl⟩;go_wp2_with fail;go_fit cc;rintro e _ ⟨rfl,n,rfl⟩;have y3:=HC.o n;have y1:=h6.o n;have x6:=aA (HF.o.drewN n);have y0:=aA (HT.o.aK ((Only.refl [] w).drewN n));clear cc;generalize w.drewN n=w1 at*;have HY:Hid (Row (w1.alloc (.cells #[.int .i64 kd,.int .i64 x,.int .i64 g] 123)) w1.heap.size 123 (enC ⟨kd,x,g⟩)):=Row.new w1 _ _;have x7:=aA (x6.o.alloc (.cells #[.int .i64 kd,.int .i64 x,.int .i64 g] 123));have h7:=aA (y0.o.aK ((Only.refl [] w1).alloc (.cells #[.int .i64 kd,.int .i64 x,.int .i64 g] 123)));go_wp2_with (at_builtin;refine aIu rfl _ _ rfl _ t.ents (by rw [<-d.o];rfl) h7.o.ents _ _ ⟨kd,x,g⟩ rfl HY.o (by have:=x9.o;have:=d.o;omega) ?_);intro v' w2 he ho h8;have h9:v'.ownBlock=(Value.slice a t.ents.length c).ownBlock\/∃ g2,v'.ownBlock=some g2/\(w1.alloc (.cells #[.int .i64 kd,.int .i64 x,.int .i64 g] 123)).heap.size<=g2:=h8.imp id (fun h=>⟨_,h,by simp⟩);have hA:=PL.aST T3 x7.o h7.o he ho h9;obtain ⟨q1,q2,q3⟩:=hA;rw [<-d.o] at q1;have HQ:=aA q3;have x8:Hid ((t.ents ++ [⟨kd,x,g⟩]:List En).length=h5+1):=by show _=_;rw [List.length_append,d.o];rfl
  obtain ⟨a2,c2,x5⟩:=he.len;rw [x8.o] at x5;subst x5;clear he ho h8 h9 q3;have y4:(h5:Int)+1 - 1=h5:=by omega
  go_wp2;exact y.o _ _ ⟨rfl,HQ.o⟩
end
set_option maxHeartbeats 6400000
structure Tb.Run (t:Tb):Prop where
 le:t.ents.length<=20
 p1:1<=t.ph
 p4:t.ph<=4
 nl:t.nx<=t.ents.length
 tg:∀ i,i<t.ents.length->0<=(eAt t.ents i).tgt/\(eAt t.ents i).tgt<=192
 z3:t.ph=3->t.nx=0
def Tb.kd (t:Tb):Nat:=if t.ph=4 then 3 else t.ph
section
variable {t:Tb} {m:Mk}
theorem Tb.xR (z:1<=t.ph) (h4:t.ph<=4) (d:t.ph≠3) (h:nxt t.ents t.kd t.nx<t.ents.length\/t.ph=4):t.settle m=t.at t.ph (nxt t.ents t.kd t.nx):=by
 unfold Tb.settle Tb.kd at*;have:t.ph=1\/t.ph=2\/t.ph=4:=by omega
 rcases this with e|e|e
 ·rw [e] at h ⊢;have y:nxt t.ents 1 t.nx<t.ents.length:=h.resolve_right (by omega);show t.set1 m t.nx=_;unfold Tb.set1;rw [if_pos y];rfl
 ·rw [e] at h ⊢;have y:nxt t.ents 2 t.nx<t.ents.length:=h.resolve_right (by omega);show t.set2 m t.nx=_;unfold Tb.set2;rw [if_pos y];rfl
 rw [e];rfl
theorem Tb.aMa (e:t.ph=1) (h:¬ nxt t.ents t.kd t.nx<t.ents.length):t.settle m=((t.find m).at 2 0).settle m:=by
 unfold Tb.kd at h;rw [e] at h;replace h:¬ nxt t.ents 1 t.nx<t.ents.length:=h;show _=(t.find m).set2 m 0;unfold Tb.settle;rw [if_pos e];unfold Tb.set1;rw [if_neg h]
theorem Tb.aLZ (e:t.ph=2) (h:¬ nxt t.ents t.kd t.nx<t.ents.length):t.settle m=(t.at 3 0).settle m:=by
 unfold Tb.kd at h;rw [e] at h;replace h:¬ nxt t.ents 2 t.nx<t.ents.length:=h;show _=t.qV m;unfold Tb.settle;rw [if_neg (by omega),if_pos e];unfold Tb.set2;rw [if_neg h]
theorem Tb.aLY (e:t.ph=3) (h:m.list=[]):t.settle m=(t.at 4 0).settle m:=by
 unfold Tb.settle;rw [if_neg (by omega),if_neg (by omega),if_pos e];unfold Tb.qV;rw [if_pos h];rfl
theorem Tb.aJf (e:t.ph=3) (y:t.nx=0) (h:m.list≠[]):t.settle m=t:=by
 unfold Tb.settle;rw [if_neg (by omega),if_neg (by omega),if_pos e];unfold Tb.qV;rw [if_neg h];unfold Tb.at
 rw [<-e,<-y]
end
section
variable {l:List Asn} {i j k hb p b:Nat} {m:Mk} {t:Tb} {kk:Nat} {w0 w:World}
theorem PL.fin (z:Three l i j k) (y:Fam w0 w (PL l i j k hb p b m t kk)) (h:t.ph=2->kk=t.ents.length):Fam w0 w (PL l i j k hb p b m t t.ents.length):=by
 by_cases e:t.ph=2
 ·rw [<-h e];exact y
 exact PL.aSS z y e t.ents.length t.fd
theorem aEq (w:World) (T3:Three l i j k) (hf:Fam w0 w (PL l i j k hb p b m t kk)) (f6:t.ph=2->kk=t.ents.length) (ht:t.Run):Calls prog 75 #[.pointer (some ⟨b,0,none⟩),.pointer (some ⟨p,0,none⟩)] w (fun e w'=>e=.returned (.tuple #[])/\Fam w0 w' (PL l i j k hb p b m (t.settle m) t.ents.length)):=by
 refine aF fun R hR=>?_;have HF:=aA hf;have d9:=aA f6;have HT:=aA ht;clear hf f6 ht;go_in;go_wp2;go_loopw [] (fun wr=>∃ (u:Tb) (q:Nat),Fam w0 wr (PL l i j k hb p b m u q)/\(u.ph=2->q=u.ents.length)/\u.Run/\u.settle m=t.settle m/\u.ents=t.ents) (fun wr=>4 - aGv wr b 3)
 case atStart=>exact ⟨t,kk,HF.o,d9.o,HT.o,rfl,rfl⟩
 case round=>
  clear HF d9 HT;obtain ⟨u,q,hf,hq,hu,hs,he⟩:=hrel;have HF:=aA hf;have HQ:=aA hq;have HU:=aA hu;have HS:=aA hs;have HE:=aA he;obtain ⟨ev,qv,mo,x4⟩:=PL.tb T3 hf;obtain ⟨z0,z1,z2,z3,z4,z5,zf⟩:=x4.cells;have x6:=mF z3;rw [x6]
  by_cases h3:u.ph=3
  ·as_aux_lemma=>
   have cd:=yZ wr T3.t2 hf;have f3:=zf 3;have f4:=zf 4;rw [h3] at z3;have HZ:=aA (hu.z3 h3)
   by_cases hl:m.list=[]
   ·have hd:decide (m.list=[])=true:=decide_eq_true hl;rw [hd] at cd;have HN:Hid (u.settle m=(u.at 4 0).settle m):=Tb.aLY h3 hl;have HP:=PL.aCH T3 (PL.tY T3 hf 4) 0;have e1:=mF (b:=b) (i:=3) (w:=(wr.setCell ⟨b,3,none⟩ (.int .i64 4)).setCell ⟨b,4,none⟩ (.int .i64 0)) (k:=.i64) (n:=4) (by
     obtain ⟨_,_,_,h7⟩:=PL.tb T3 HP;exact h7.cells.2.2.2.1)
    have b5:=aA HP;have i3:=aA e1;clear hf hq hu hs he x4 hd hl HP e1;go_wp2_with fail;go_fit cd;rintro e _ ⟨rfl,rfl⟩;clear cd;go_wp2;exact ⟨⟨u.at 4 0,0,b5.o,fun h=>by (cases h),⟨HU.o.le,by show 1<=4;omega,by show 4<=4;omega,Nat.zero_le _,HU.o.tg,fun h=>by (cases h)⟩,by rw [<-HN.o];exact HS.o,HE.o⟩,by rw [i3.o,h3];omega⟩
   have hd:decide (m.list=[])=false:=decide_eq_false hl;rw [hd] at cd;have HN:Hid (u.settle m=u):=Tb.aJf h3 HZ.o hl;have b5:=aA (PL.aSS T3 hf (by omega) t.ents.length u.fd);clear hf hq hu hs he x4 hd hl;go_wp2_with fail;go_fit cd;rintro e _ ⟨rfl,rfl⟩;clear cd;go_wp2;refine bodyPost_ret (results_none rfl _ _ _) rfl ?_;refine hR.o _ _ ⟨rfl,?_⟩;rw [<-HS.o,HN.o];exact b5.o
  have a0:Hid (∀ wx,Calls prog 160 #[.int .i64 (u.ph:Int)] wx (aO wx (.int .i64 (u.kd:Int)))):=fun wx=>aHu wx u.ph;have i8:((u.ph:Int) == 3)=false:=by rw [beq_eq_false_iff_ne];omega
  have j0:1<=u.ph/\u.ph<=4:=⟨hu.p1,hu.p4⟩;obtain ⟨ph,b8⟩:∃ z,z=u.ph:=⟨_,rfl⟩;have x2:=aA b8;rw [<-b8] at i8 z3 h3 j0 a0;obtain ⟨kd,b9⟩:∃ z,z=u.kd:=⟨_,rfl⟩;have y2:=aA b9;rw [<-b9] at a0;have a1:Hid (u.nx<=nxt u.ents kd u.nx):=by
   show _<=_
   by_cases e:nxt u.ents kd u.nx<u.ents.length
   ·exact (nX e).1
   have:=hu.nl;have:=nV (l:=u.ents) (k:=kd) (n:=u.nx);omega
  clear hf hq hu hs he x4 b8 b9 z0 z1 z2 z4 z5;go_wp2_with fail;obtain ⟨wo,rfl⟩:∃ wo:World,wo=wr:=⟨_,rfl⟩;go_loopw [] (fun wr=>∃ n:Nat,u.nx<=n/\n<=nxt u.ents kd u.nx/\Fam w0 wr (PL l i j k hb p b m (u.at u.ph n) q)) (fun wr=>20 - aGv wr b 4)
  case atStart=>exact ⟨u.nx,Nat.le_refl _,a1.o,HF.o⟩
  case round=>
   clear HF z3 zf;obtain ⟨n,a7,c7,hf⟩:=hrel;have HF:=aA hf;obtain ⟨ev,qv,mo,x4⟩:=PL.tb T3 hf;obtain ⟨z0,z1,z2,z3,z4,z5,zf⟩:=x4.cells;have a4:=mF z4;have a5:=mF z3;replace a4:aGv wr b 4=n:=a4;replace a5:aGv wr b 3=u.ph:=a5;rw [a4];replace z4:wr.cell? ⟨b,4,none⟩=some (.int .i64 (n:Int)):=z4;replace z3:wr.cell? ⟨b,3,none⟩=some (.int .i64 (u.ph:Int)):=z3;rw [<-x2.o] at z3;have f3:=zf 3;have f4:=zf 4;have f5:=zf 5;have x7:iP wr 123 0 ev u.ents:=x4.ents;obtain ⟨va,vc,x8⟩:=x7.len;have g7:=aA x7;have j8:=aA HU.o.le;have k1:=aA a5;subst x8;clear hf x4 z0 z2 z5 zf a4 a5 x7;have j6:(0:Int)<=n:=by omega
   by_cases x3:n<u.ents.length
   ·obtain ⟨g,cap,hv,_,_,c0,_,_,_⟩:=g7.o.at x3;simp only [Value.slice.injEq,true_and] at hv;obtain ⟨rfl,rfl⟩:=hv;have h6:(n:Int)<(u.ents.length:Int):=by omega
    by_cases x5:(eAt u.ents n).kind=(kd:Int)
    ·as_aux_lemma=>
     have f1:((eAt u.ents n).kind == (kd:Int))=true:=by rw [x5];simp
     have d5:Hid (n=nxt u.ents kd u.nx):=by
      show _=_
      by_cases e:n=nxt u.ents kd u.nx
      ·exact e
      exact absurd x5 (wS a7 (by omega))
     have b6:Hid (u.settle m=u.at u.ph n):=by
      show _=_;have:=x2.o;rw [d5.o,y2.o];exact Tb.xR (by omega) (by omega) (by omega) (.inl (by rw [<-y2.o,<-d5.o];exact x3))
     have b2:Hid (u.ph=2->q=u.ents.length):=HQ.o;rw [x5] at c0;obtain ⟨h8,d⟩:∃ z,z=u.ents.length:=⟨_,rfl⟩;rw [<-d] at z1 h6;have h9:=aA d;clear x5 f1 a7 c7 x3 a1 d;go_wp2;go_quiet ((go_at_call 160;with_reducible exact aU (a0.o _)))
     go_wp2;go_quiet (fail);go_wp2;refine bodyPost_ret (results_none rfl _ _ _) rfl ?_;refine hR.o _ _ ⟨rfl,?_⟩;rw [<-HS.o,b6.o,<-HE.o];exact PL.fin T3 ((HF.o.drewN _).drewN _) b2.o
    ·as_aux_lemma=>
     have f1:((eAt u.ents n).kind == (kd:Int))=false:=by rw [beq_eq_false_iff_ne];exact x5
     have i2:Hid (n+1<=nxt u.ents kd u.nx):=by
      show _<=_
      by_cases e:n=nxt u.ents kd u.nx
      ·have h7:=(nX (l:=u.ents) (k:=kd) (n:=u.nx) (by rw [<-e];exact x3)).2;rw [<-e] at h7;exact absurd h7 x5
      omega
     have i1:Hid (u.nx<=n+1):=by show _<=_;omega
     have z9:n<20:=by have:=HU.o.le;omega
     obtain ⟨h8,d⟩:∃ z,z=u.ents.length:=⟨_,rfl⟩;rw [<-d] at z1 h6;have h9:=aA d;generalize (eAt u.ents n).kind=kn at*;clear x5 a7 c7 x3 a1 d;go_wp2;go_quiet ((go_at_call 160;with_reducible exact aU (a0.o _)))
     go_wp2_with fail;have b1:=fun y=>PL.aCH T3 (HF.o.drewN y) (n+1);have y0:=aA b1;have y6:=fun y=>mF (b:=b) (i:=4) (w:=(wr.drewN y).setCell ⟨b,4,none⟩ (.int .i64 ((n+1:Nat):Int))) (k:=.i64) (n:=n+1) (by
      obtain ⟨_,_,_,h7⟩:=PL.tb T3 (y0.o y);exact h7.cells.2.2.2.2.1)
     have j3:((n:Int)+1)=((n+1:Nat):Int):=by omega
     rw [j3];exact ⟨⟨n+1,i1.o,i2.o,y0.o _⟩,by rw [y6];omega⟩
   obtain rfl:n=u.ents.length:=by have:=nV (l:=u.ents) (k:=kd) (n:=u.nx);omega
   have b4:Hid (u.ents.length=nxt u.ents kd u.nx):=by show _=_;have:=nV (l:=u.ents) (k:=kd) (n:=u.nx);omega
   have h6:¬ ((u.ents.length:Int)<(u.ents.length:Int)):=by omega
   have g6:decide ((u.ents.length:Int)<(u.ents.length:Int))=false:=decide_eq_false h6;obtain ⟨h8,d⟩:∃ z,z=u.ents.length:=⟨_,rfl⟩;rw [<-d] at z1 h6 g6 z4;have h9:=aA d;clear a7 c7 x3 a1 d
   by_cases h4:ph=4
   ·as_aux_lemma=>
    have b6:Hid (u.settle m=u.at u.ph u.ents.length):=by
     show _=_;have:=x2.o;rw [b4.o,y2.o];exact Tb.xR (by omega) (by omega) (by omega) (.inr (by omega))
    have b2:Hid (u.ph=2->q=u.ents.length):=HQ.o;subst h4;go_wp2;go_quiet (fail);go_wp2;go_quiet (fail);go_wp2;refine bodyPost_ret (results_none rfl _ _ _) rfl ?_;refine hR.o _ _ ⟨rfl,?_⟩;rw [<-HS.o,b6.o,<-HE.o];exact PL.fin T3 ((HF.o.drewN _).drewN _) b2.o
   have k3:((ph:Int) == 4)=false:=by rw [beq_eq_false_iff_ne];omega
   by_cases h1:ph=1
   ·as_aux_lemma=>
    subst h1;have HN:Hid (u.settle m=((u.find m).at 2 0).settle m):=Tb.aMa x2.o.symm (by rw [<-y2.o,<-b4.o];omega);go_wp2;go_quiet (fail);go_wp2;go_quiet (fail);have x9:=fun y z=>aA ((HF.o.drewN y).drewN z);clear z1 z3 z4 f3 f4 f5;generalize g1:(wr.drewN _).drewN _=w1;replace x9:Hid (Fam w0 w1 (PL l i j k hb p b m (u.at u.ph u.ents.length) q)):=by rw [<-g1];exact (x9 _ _).o
    clear g1;have c9:Fam w0 ((w1.setCell ⟨b,3,none⟩ (.int .i64 2)).setCell ⟨b,4,none⟩ (.int .i64 0)) (PL l i j k hb p b m (u.at 2 0) 0):=PL.aCH T3 (PL.tY T3 x9.o 2) 0;have a8:Fam w0 ((((w1.setCell ⟨b,3,none⟩ (.int .i64 2)).setCell ⟨b,4,none⟩ (.int .i64 0)).alloc (.map #[] 0)).setCell ⟨b,5,none⟩ (.map (some ((w1.setCell ⟨b,3,none⟩ (.int .i64 2)).setCell ⟨b,4,none⟩ (.int .i64 0)).heap.size))) (PL l i j k hb p b m (u.at 2 0) 0):=PL.aPY T3 c9;obtain ⟨k2,k6,k4,d0⟩:=PL.tb T3 x9.o;obtain ⟨_,z1,_,z3,z4,z5,zf⟩:=d0.cells;obtain ⟨i9,k7,k5,d1⟩:=PL.tb T3 c9;obtain ⟨c4,d3,j7,h0⟩:=PL.tb T3 a8;have x8:c4=i9/\j7=some ((w1.setCell ⟨b,3,none⟩ (.int .i64 2)).setCell ⟨b,4,none⟩ (.int .i64 0)).heap.size:=by
     obtain ⟨U,f9⟩:=d1.row;have h1:=((f9.alloc (.map #[] 0)).set 5 (.map (some ((w1.setCell ⟨b,3,none⟩ (.int .i64 2)).setCell ⟨b,4,none⟩ (.int .i64 0)).heap.size))).cell 1 rfl;have h5:=((f9.alloc (.map #[] 0)).set 5 (.map (some ((w1.setCell ⟨b,3,none⟩ (.int .i64 2)).setCell ⟨b,4,none⟩ (.int .i64 0)).heap.size))).cell 5 rfl;have e8:=h1.symm.trans h0.cells.2.1;have e9:=h5.symm.trans h0.cells.2.2.2.2.2.1;simp only [Option.some.injEq,Value.map.injEq] at e8 e9;exact ⟨e8.symm,e9.symm⟩
    obtain ⟨rfl,rfl⟩:=x8;have a9:((w1.setCell ⟨b,3,none⟩ (.int .i64 2)).setCell ⟨b,4,none⟩ (.int .i64 0)).heap.size=w1.heap.size:=by simp
    have j2:b<w1.heap.size:=by obtain ⟨U,hr⟩:=d0.row;exact hr.lt
    rw [a9] at a8 h0;have d2:=d1.aK ((Only.refl [] _).alloc (.map #[] 0));obtain ⟨_,y1,_,y3,y4,y5,yf⟩:=d2.cells;have d6:Hid (jB (((w1.setCell ⟨b,3,none⟩ (.int .i64 2)).setCell ⟨b,4,none⟩ (.int .i64 0)).alloc (.map #[] 0)) w1.heap.size 0 (fun _=>false)):=by
     have:=jB.made ((w1.setCell ⟨b,3,none⟩ (.int .i64 2)).setCell ⟨b,4,none⟩ (.int .i64 0)) (fun _=>false);rw [a9] at this;exact this
    have e7:Hid (jB ((((w1.setCell ⟨b,3,none⟩ (.int .i64 2)).setCell ⟨b,4,none⟩ (.int .i64 0)).alloc (.map #[] 0)).setCell ⟨b,5,none⟩ (.map (some w1.heap.size))) w1.heap.size 0 (fun _=>false)):=
     d6.o.only (((Only.refl [b] _).set (.inl (by simp)) _).toP (S:=fun x=>x=b) (fun x hx=>.inl (by simpa using hx))) (fun x=>by omega)
    have a2:=aA (PL.fd0 T3 a8 (u.find m).fd);replace a2:Hid (Fam w0 ((((w1.setCell ⟨b,3,none⟩ (.int .i64 2)).setCell ⟨b,4,none⟩ (.int .i64 0)).alloc (.map #[] 0)).setCell ⟨b,5,none⟩ (.map (some w1.heap.size))) (PL l i j k hb p b m ((u.find m).at 2 0) 0)):=a2;have e2:Hid (mZ ((((w1.setCell ⟨b,3,none⟩ (.int .i64 2)).setCell ⟨b,4,none⟩ (.int .i64 0)).alloc (.map #[] 0)).setCell ⟨b,5,none⟩ (.map (some w1.heap.size))) b c4 d3 (some w1.heap.size) ((u.find m).at 2 0) 0):=
     ⟨h0.row,h0.ents,h0.q,fun mb e=>by
      obtain ⟨n,f,h1,h2,_⟩:=h0.fnd mb e;exact ⟨n,f,h1,h2,fun _=>⟨Nat.zero_le _,fun i hi=>by omega⟩⟩,fun _ x=>absurd x (by omega),h0.n1,h0.n2,h0.n3⟩
    have j5:(Instr.makeMap 114 none).run prog ((w1.setCell ⟨b,3,none⟩ (.int .i64 2)).setCell ⟨b,4,none⟩ (.int .i64 0))=.ok (.map (some w1.heap.size)) (((w1.setCell ⟨b,3,none⟩ (.int .i64 2)).setCell ⟨b,4,none⟩ (.int .i64 0)).alloc (.map #[] 0)):=by
     rw [<-a9];kernel_rfl
    have x7:iP _ 123 0 c4 u.ents:=d2.ents;obtain ⟨g3,d4,x8⟩:=x7.len;rw [<-h9.o] at x8;subst x8;have f3:=zf 3;have f4:=zf 4;have g5:=yf 5;replace z3:w1.cell? ⟨b,3,none⟩=some (.int .i64 1):=by rw [z3,<-x2.o];rfl
    clear j2 c9 a8 d0 d1 d2 h0 x7 a9 zf yf y3 y4 z1 HF x9 d6;go_wp2_with fail;generalize ((((w1.setCell ⟨b,3,none⟩ (.int .i64 2)).setCell ⟨b,4,none⟩ (.int .i64 0)).alloc (.map #[] 0)).setCell ⟨b,5,none⟩ (.map (some w1.heap.size)))=w5 at*;generalize w1.heap.size=mb at*;clear y1 y5 g5 j5 f3 f4 z3 z4 z5;obtain ⟨g4,rfl⟩:∃ g4:World,g4=wr:=⟨_,rfl⟩;have i6:Hid (∀ i,i<u.ents.length->wfI (eAt u.ents i).tgt):=fun i hi=>dI (by have:=HU.o.tg i hi;omega);go_loopw [95] (fun iv wr=>∃ (k9:Nat) (f:Nat->Bool),k9<=h8/\iv=.int .i64 k9/\Fam w0 wr (PL l i j k hb p b m ((u.find m).at 2 0) k9)/\mZ wr b (.slice g3 h8 d4) d3 (some mb) ((u.find m).at 2 0) k9/\jB wr mb k9 f/\∀ i,i<k9->f i=(u.find m).fd i) (fun iv _=>h8 - (intOf iv).toNat)
    case atStart=>exact ⟨0,_,by omega,rfl,a2.o,e2.o,e7.o,fun i hi=>by omega⟩
    case round=>as_aux_lemma=>
     clear a2 e2 e7;obtain ⟨n,f,hn,rfl,hf,ht,hm,c5⟩:=hrel;have HF:=aA hf;have HT:=aA ht;have HM:=aA hm;have d7:=aA c5
     by_cases x3:n<h8
     ·have h6:(n:Int)<(h8:Int):=by omega
      have j6:(0:Int)<=n:=by omega
      have f0:iP wr 123 0 (.slice g3 h8 d4) u.ents:=ht.ents;have c6:n<u.ents.length:=by rw [<-h9.o];exact x3
      obtain ⟨g,cap,hv,j4,_,c0,c1,c2,_⟩:=f0.at c6;rw [<-h9.o] at hv;simp only [Value.slice.injEq,true_and] at hv;obtain ⟨rfl,rfl⟩:=hv;have i4:Hid (∀ j v,[Value.int .i64 (eAt u.ents n).kind,.int .i64 (eAt u.ents n).tgt,.int .i64 (eAt u.ents n).tag][j]?=some v->wr.cell? ⟨g,n*3+j,none⟩=some v):=fun j v hv=>by
       match j,hv with
       | 0,hv=>cases hv;exact c0
       | 1,hv=>cases hv;exact c1
       | 2,hv=>cases hv;exact c2
       | j+3,hv=>simp at hv
      have i7:=aA (i6.o n c6);have e6:Hid ((u.find m).fd n=(decide ((eAt u.ents n).kind=2) && m.isW (eAt u.ents n).tgt)):=rfl;have z9:Hid (n<20):=by show _<_;have:=HU.o.le;omega
      generalize eAt u.ents n=en at*;obtain ⟨ek,et,eg⟩:=en;have HX:=Row.new wr 123 [.int .i64 ek,.int .i64 et,.int .i64 eg];have d8:=aA (hf.alloc (.cells #[.int .i64 ek,.int .i64 et,.int .i64 eg] 123));have c8:Only [] wr (wr.alloc (.cells #[.int .i64 ek,.int .i64 et,.int .i64 eg] 123)):=(Only.refl [] wr).alloc _;have e3:=aA (ht.aK c8);have i0:=aA (hm.only (c8.vU (S:=fun _=>False)) (fun x=>x));have e0:Hid (mb<wr.heap.size):=hm.lt;have x0:=HX.cell 0 rfl;have x1:=HX.cell 1 rfl;have e5:=e3.o.cells.2.2.2.2.2.1;clear hf ht hm c5 f0 c6 j4 c0 c1 c2 HX c8 HF HT HM;go_wp2_with (refine fB rfl 123 _ rfl g (n*3) rfl [.int .i64 ek,.int .i64 et,.int .i64 eg] _ Tryz.underlying123 rfl aJe i4.o ?_);have g0:mb<wr.heap.size:=e0.o;generalize wr.alloc (.cells #[.int .i64 ek,.int .i64 et,.int .i64 eg] 123)=w6 at*;generalize wr.heap.size=rb at*;have i5:=aA g0;clear g0 e0;have a3:Hid (∀ wy,Only [] w6 wy->∃ w',(Instr.mapUpdate 114 (.map (some mb)) (.int .i64 (n:Int)) (.bool ((u.find m).fd n))).run prog wy=.ok () w'/\(w'.cell? ⟨b,5,none⟩=some (.map (some mb))/\w'.cell? ⟨rb,0,none⟩=some (.int .i64 ek)/\w'.cell? ⟨rb,1,none⟩=some (.int .i64 et))/\∃ f',jB w' mb (n+1) f'/\(∀ i,i<n+1->f' i=(u.find m).fd i)/\Fam w0 w' (PL l i j k hb p b m ((u.find m).at 2 0) (n+1))/\mZ w' b (.slice (some ⟨g,0,none⟩) h8 d4) d3 (some mb) ((u.find m).at 2 0) (n+1)):=fun wy ho=>by
       obtain ⟨w',h1,h2,h3,h4,h5⟩:=PL.aPZ T3 (d8.o.aK ho) (e3.o.aK ho) (i0.o.only (ho.vU (S:=fun _=>False)) (fun x=>x)) d7.o z9.o;have f8:rb∉[mb]:=by have:=i5.o;simp;omega
       refine ⟨w',h1,⟨h5.cells.2.2.2.2.2.1,h3.cell (ho.cell x0 (by simp)) f8,h3.cell (ho.cell x1 (by simp)) f8⟩,_,h2,fun i hi=>?_,h4,h5⟩
       by_cases e:i=n
       ·rw [e,if_pos rfl];rfl
       rw [if_neg e];exact d7.o i (by omega)
      by_cases a6:ek=2
      ·as_aux_lemma=>
       subst a6;have y9:(u.find m).fd n=m.isW et:=e6.o;rw [y9] at a3;have g9:Hid (Calls prog 151 #[.pointer (some ⟨p,0,none⟩),.int .i64 et] w6.drew (Same w6.drew (.bool (m.isW et)))):=qI w6.drew T3.t2 d8.o.drew et i7.o;clear y9;generalize m.isW et=wt at*;go_region_held3 (fun w'=>w'.cell? ⟨b,5,none⟩=some (.map (some mb))/\w'.cell? ⟨rb,0,none⟩=some (.int .i64 2)/\w'.cell? ⟨rb,1,none⟩=some (.int .i64 et))
        (first|(exact ⟨e5,x0,x1⟩)|(exact f2))
        (first|(go_at_call 151;go_fit g9.o;rintro e _ ⟨rfl,n9,rfl⟩;obtain ⟨w7,z8,f2,g2⟩:=a3.o _ ((Only.refl [] w6).drewN (1+n9));have e4:=aA g2;clear g2))
       obtain ⟨f7,z6,y7,y8,z7⟩:=e4.o;have b0:=aA y8;have b7:=aA z7;have b3:=aA z6;have c3:=aA y7;clear z8 f2 e4 z6 y7 y8 z7 x0 x1 e5;have j1:=z9.o;go_wp2;exact ⟨⟨n+1,f7,by omega,by go_num,b0.o,b7.o,b3.o,c3.o⟩,by simp [intOf];omega⟩
      ·as_aux_lemma=>
       have j9:(ek == 2)=false:=by rw [beq_eq_false_iff_ne];exact a6
       have y9:(u.find m).fd n=false:=by rw [e6.o];simp [a6]
       rw [y9] at a3;obtain ⟨w7,z8,_,f7,z6,y7,y8,z7⟩:=a3.o _ (Only.refl [] w6).drew;have b0:=aA y8;have b7:=aA z7;have b3:=aA z6;have c3:=aA y7;clear z6 y7 y8 z7 y9 a6;go_still_tail 14,(by kernel_rfl);change wpList _ _ _ _ _ w6.drew;have j1:=z9.o;go_wp2;exact ⟨⟨n+1,f7,by omega,by go_num,b0.o,b7.o,b3.o,c3.o⟩,by simp [intOf];omega⟩
     ·as_aux_lemma=>
      obtain rfl:n=h8:=by omega
      have h6:¬ (n:Int)<(n:Int):=by omega
      have g8:Hid (((u.find m).at 2 0).Run):=⟨HU.o.le,by show 1<=2;omega,by show 2<=4;omega,Nat.zero_le _,HU.o.tg,fun e=>by simp [Tb.at] at e⟩;have x6:=mF ht.cells.2.2.2.1;have y6:=aA x6;clear hf ht hm c5 x6;go_wp2;exact ⟨⟨(u.find m).at 2 0,n,HF.o,fun _=>h9.o,g8.o,HN.o.symm.trans HS.o,HE.o⟩,by rw [y6.o];show 4 - 2<4 - u.ph;have:=x2.o;omega⟩
   ·as_aux_lemma=>
    obtain rfl:ph=2:=by omega
    have HN:Hid (u.settle m=(u.at 3 0).settle m):=Tb.aLZ x2.o.symm (by rw [<-y2.o,<-b4.o];omega);go_wp2;go_quiet (fail);go_wp2;go_quiet (fail);go_wp2_with fail;have b1:=fun y=>PL.aCH T3 (PL.tY T3 (HF.o.drewN y) 3) 0;have y0:=aA b1;have y6:=fun y=>mF (b:=b) (i:=3) (w:=((wr.drewN y).setCell ⟨b,3,none⟩ (.int .i64 3)).setCell ⟨b,4,none⟩ (.int .i64 0)) (k:=.i64) (n:=3) (by
     obtain ⟨_,_,_,h7⟩:=PL.tb T3 (y0.o y);exact h7.cells.2.2.2.1)
    exact ⟨⟨u.at 3 0,0,y0.o _,fun h=>by (cases h),⟨HU.o.le,by show 1<=3;omega,by show 3<=4;omega,Nat.zero_le _,HU.o.tg,fun h=>rfl⟩,by rw [<-HN.o];exact HS.o,HE.o⟩,by rw [y6,<-x2.o];omega⟩
end
