/- Lemmas of this claim. -/
import Derived.Test.YthflghdaejbdkaaGreatXaObjG
import Derived.Test.YthflghdaejbdkaaGreatXaOModel
import Derived.Test.YthflghdaejbdkaaGreatXaInts
import Derived.Laws.StructEq
import Derived.Test.YthflghdaejbdkaaGreatXaQModel
namespace Go.Proofs.YthflghdaejbdkaaGreat
open _root_.Go.Proofs.Tryz (prog)
open Go.RowKit Go.Maps
set_option maxHeartbeats 3200000
set_option maxRecDepth 100000
set_option linter.unusedVariables false
def qV (o y:Th):Bool:=decide (o.kind=y.kind) && decide (o.cls=y.cls) && decide (o.dY=y.dY) && decide (o.slots=y.slots)
section
variable {L L2:Nat->Option Lb} {hb hb2:Nat} {M M2:Hp} {X X2:HX}
theorem aHN (w:World) (h:dJ w L hb M X) (hk:M.Ok) (h2:dJ w L2 hb2 M2 X2) (h7:M2.Ok) {x x2:Int} {o y:Th} (ho:M.ob x=some o) (h0:M2.ob x2=some y) (p1 p2:Nat)
  (e1:w.cell? ⟨p1,0,none⟩=some (.pointer (some ⟨hb,0,none⟩))) (e2:w.cell? ⟨p2,0,none⟩=some (.pointer (some ⟨hb2,0,none⟩))) :
  Calls prog 139 #[.pointer (some ⟨X.blk x,0,none⟩),.pointer (some ⟨X2.blk x2,0,none⟩),.pointer (some ⟨p1,0,none⟩),.pointer (some ⟨p2,0,none⟩)] w (fun e w'=>e=.returned (.bool (qV o y))/\Only [] w w'):=by
 refine aF fun R hR=>?_;have t1:=h.th x o ho;have t2:=h2.th x2 y h0;obtain ⟨h1,h3,h4,h5,a7⟩:=t1.cells;obtain ⟨h9,x1,x3,h6,a8⟩:=t2.cells;have z8:=(hk.th x o ho).le;have z9:=(h7.th x2 y h0).le;have l1:o.dY.length<=1000000:=by have:=(hk.th x o ho).rl;unfold Th.dY;split<;>simp;omega
 have l2:y.dY.length<=1000000:=by have:=(h7.th x2 y h0).rl;unfold Th.dY;split<;>simp;omega
 have d:∀ wx,Only [] w wx->Calls prog 140 #[X.rv x,X2.rv x2] wx (fun e w'=>e=.returned (.bool (decide (o.dY=y.dY)))/\jJ wx w'):=fun wx hox=>
  aKd wx _ _ _ _ (t1.rb.read.only hox (by simp)) (t2.rb.read.only hox (by simp)) l1 l2
 have a6:Hid (∀ wx,Only [] w wx->Calls prog 142 #[.pointer (some ⟨hb,0,none⟩),.pointer (some ⟨X.blk x,0,none⟩)] wx (aKF wx o.slots)):=fun wx hox=>aAl wx (h.aK hox) hk ho;have a5:Hid (∀ wx,Only [] w wx->Calls prog 142 #[.pointer (some ⟨hb2,0,none⟩),.pointer (some ⟨X2.blk x2,0,none⟩)] wx (aKF wx y.slots)):=fun wx hox=>aAl wx (h2.aK hox) h7 h0;obtain ⟨a1,b1,z4⟩:=t1.rb.len;obtain ⟨a2,b2,z5⟩:=t2.rb.len;rw [z4] at h5 d;rw [z5] at h6 d;have x6:Hid (o.slots.length<=48/\y.slots.length<=48):=⟨z8,z9⟩;obtain ⟨n1,z0⟩:∃ z,z=o.dY.length:=⟨_,rfl⟩;obtain ⟨n2,z1⟩:∃ z,z=y.dY.length:=⟨_,rfl⟩;rw [<-z0] at h5 d;rw [<-z1] at h6 d;generalize X.blk x=k1 at*;generalize X2.blk x2=k2 at*;clear h h2 t1 t2 z4 z5 a7 a8 hk h7 ho h0 l1 l2 z0 z1 z8 z9;have hl:Hid (qV o y=(decide (o.kind=y.kind) && decide (o.cls=y.cls) && decide (o.dY=y.dY) && decide (o.slots=y.slots))):=rfl
 by_cases q1:o.kind=y.kind
 ·rw [q1] at h1
  by_cases q2:o.cls=y.cls
  ·rw [q2] at h3
   by_cases q3:o.slots.length=y.slots.length
   ·rw [q3] at h4;have h8:Hid (qV o y=(decide (o.dY=y.dY) && decide (o.slots=y.slots))):=by show _=_;rw [hl.out,q1,q2];simp
    obtain ⟨kd,y8⟩:∃ z,z=y.kind:=⟨_,rfl⟩;obtain ⟨cl,y7⟩:∃ z,z=y.cls:=⟨_,rfl⟩;obtain ⟨ln,y9⟩:∃ z,z=y.slots.length:=⟨_,rfl⟩;rw [<-y8] at h1 h9;rw [<-y7] at h3 x1;rw [<-y9] at h4 x3;clear q1 q2 q3 y8 y7 y9 hl
    cases hq:decide (o.dY=y.dY)
    ·rw [hq] at d;have HL:Hid (qV o y=false):=by show _=_;rw [h8.out,hq];rfl
     have b4:∀ n,Calls prog 140 #[.slice a1 n1 b1,.slice a2 n2 b2] (w.drewN n) fun e w''=>e=.returned (.bool false)/\∃ m,w''=w.drewN m:=fun n=>Calls.quiet_of (d _ ((Only.refl [] w).drewN n));clear d hq h8;go_in;go_wp2_with fail;go_quiet ((go_at_call 140;with_reducible exact b4 _))
     go_wp2;exact hR.out _ _ ⟨by rw [HL.out];rfl,(Only.refl [] w).drewN _⟩
    rw [hq] at d;have HL:Hid (qV o y=decide (o.slots=y.slots)):=by show _=_;rw [h8.out,hq];rfl
    have a3:=aA d;have a4:Hid (∀ wx v v2,aN wx 0 v o.slots->aN wx 0 v2 y.slots->Calls prog 141 #[v,v2] wx (fun e w'=>e=.returned (.bool (qV o y))/\jJ wx w')):=fun wx v v2 i1 i2=>by
     rw [HL.out];exact aEB wx v v2 _ _ i1.read i2.read (by have:=x6.out.1;omega) (by have:=x6.out.2;omega)
    have QD:Hid (Only [] w w.drew):=aEc w;have x7:w.drew.cell? ⟨k1,0,none⟩=_:=h1;have x8:w.drew.cell? ⟨k1,1,none⟩=_:=h3;have x9:w.drew.cell? ⟨k1,2,none⟩=_:=h4;have y0:w.drew.cell? ⟨k1,3,none⟩=_:=h5;have y1:w.drew.cell? ⟨k2,0,none⟩=_:=h9;have y2:w.drew.cell? ⟨k2,1,none⟩=_:=x1;have y3:w.drew.cell? ⟨k2,2,none⟩=_:=x3;have y4:w.drew.cell? ⟨k2,3,none⟩=_:=h6;have y5:w.drew.cell? ⟨p1,0,none⟩=_:=e1;have y6:w.drew.cell? ⟨p2,0,none⟩=_:=e2;generalize qV o y=b6 at*;clear d hq h8 HL h1 h3 h4 h5 h9 x1 x3 h6 e1 e2;go_in;go_wp2;go_region_held3 (fun w'=>(w'.cell? ⟨k1,0,none⟩=some (.int .i64 kd)/\w'.cell? ⟨k1,1,none⟩=some (.int .i64 cl)/\w'.cell? ⟨k1,2,none⟩=some (.int .i64 ln)/\w'.cell? ⟨k1,3,none⟩=some (.slice a1 n1 b1))/\(w'.cell? ⟨k2,0,none⟩=some (.int .i64 kd)/\w'.cell? ⟨k2,1,none⟩=some (.int .i64 cl)/\w'.cell? ⟨k2,2,none⟩=some (.int .i64 ln)/\w'.cell? ⟨k2,3,none⟩=some (.slice a2 n2 b2))/\w'.cell? ⟨p1,0,none⟩=some (.pointer (some ⟨hb,0,none⟩))/\w'.cell? ⟨p2,0,none⟩=some (.pointer (some ⟨hb2,0,none⟩)))
     (first
      | (exact ⟨⟨x7,x8,x9,y0⟩,⟨y1,y2,y3,y4⟩,y5,y6⟩)
      | (exact ⟨⟨oo.aP x7,oo.aP x8,oo.aP x9,oo.aP y0⟩,⟨oo.aP y1,oo.aP y2,oo.aP y3,oo.aP y4⟩,oo.aP y5,oo.aP y6⟩))
     (first
      | (go_at_call 140;refine (a3.out _ QD.out).mono ?_;rintro e w3 ⟨rfl,b0⟩;have oo:Only [] w.drew w3:=b0.only [])
      | (go_at_call_of 142 k1;refine (a6.out _ (QD.out.trans oo (by simp))).mono ?_;rintro e w4 ⟨v4,rfl,i4,o4⟩;obtain ⟨b7,b9,z6⟩:=i4.len;obtain ⟨n4,z2⟩:∃ z,z=o.slots.length:=⟨_,rfl⟩;rw [<-z2] at z6;subst z6;clear z2;replace oo:=oo.trans o4 (by simp))
      | (go_at_call_of 142 k2;refine (a5.out _ (QD.out.trans oo (by simp))).mono ?_;rintro e w5 ⟨v5,rfl,i5,o5⟩;obtain ⟨b8,c0,z7⟩:=i5.len;obtain ⟨n5,z3⟩:∃ z,z=y.slots.length:=⟨_,rfl⟩;rw [<-z3] at z7;subst z7;clear z3;replace oo:=oo.trans o5 (by simp))
      | (go_at_call 141;refine (a4.out _ _ _ ((i4.base (Nat.zero_le _)).only o5 (by simp)) (i5.base (Nat.zero_le _))).mono ?_;rintro e w6 ⟨rfl,b3⟩;replace oo:=oo.trans (b3.only []) (by simp)))
    go_wp2;exact hR.out _ _ ⟨rfl,QD.out.trans oo (by simp)⟩
   have HL:Hid (qV o y=false):=by
    show _=_;rw [hl.out,decide_eq_false (show ¬ o.slots=y.slots from fun e=>q3 (by rw [e]))];simp
   have a0:¬ (o.slots.length:Int)=(y.slots.length:Int):=by omega
   generalize (o.slots.length:Int)=x4 at*;generalize (y.slots.length:Int)=x5 at*;have hq:(x4 == x5)=false:=by simpa using a0
   generalize y.kind=kd at*;generalize y.cls=cl at*;clear q1 q2 q3 a0 hl d e1 e2;go_in;go_wp2_with fail;go_quiet (fail);go_wp2;exact hR.out _ _ ⟨by rw [HL.out];rfl,(Only.refl [] w).drewN _⟩
  have HL:Hid (qV o y=false):=by
   show _=_;rw [hl.out,decide_eq_false q2];simp
  have hq:(o.cls == y.cls)=false:=by simpa using q2
  generalize (o.slots.length:Int)=x4 at*;generalize (y.slots.length:Int)=x5 at*;generalize y.kind=kd at*;generalize o.cls=a9 at*;generalize y.cls=cl at*;clear q1 q2 hl d e1 e2;go_in;go_wp2_with fail;go_quiet (fail);go_wp2;exact hR.out _ _ ⟨by rw [HL.out];rfl,(Only.refl [] w).drewN _⟩
 have HL:Hid (qV o y=false):=by
  show _=_;rw [hl.out,decide_eq_false q1];simp
 have hq:(o.kind == y.kind)=false:=by simpa using q1
 generalize (o.slots.length:Int)=x4 at*;generalize (y.slots.length:Int)=x5 at*;generalize o.kind=b5 at*;generalize y.kind=kd at*;generalize o.cls=a9 at*;generalize y.cls=cl at*;clear q1 hl d e1 e2;go_in;go_wp2_with fail;go_quiet (fail);go_wp2;exact hR.out _ _ ⟨by rw [HL.out];rfl,(Only.refl [] w).drewN _⟩
end
theorem aBy (w:World) (p1 p2 m1 m2 n1 n2:Nat) (f1 f2:Int->Option Nat) (g:Int->Bool) (h1:dL w m1 n1 f1) (h2:dL w m2 n2 f2)
  (y4:∀ k b1 b2 w',Only [] w w'->f1 k=some b1->f2 k=some b2->Calls prog 139 #[.pointer (some ⟨b1,0,none⟩),.pointer (some ⟨b2,0,none⟩),.pointer (some ⟨p1,0,none⟩),.pointer (some ⟨p2,0,none⟩)] w' (fun e w''=>e=.returned (.bool (g k))/\Only [] w' w'')) :
  Calls prog 138 #[.map (some m1),.map (some m2),.func (.func 139) #[] #[.pointer (some ⟨p1,0,none⟩),.pointer (some ⟨p2,0,none⟩)]] w fun e w'=>
   ∃ r,e=.returned (.bool r)/\(r=true↔EqM f1 f2 g)/\Only [] w w':=by
 refine aF fun R hR=>?_;have z4:=aA h2;obtain ⟨D1,y3,y1⟩:=h1;obtain ⟨D2,y2,y0⟩:=h2;have d1:lX D1 f1:=y1;have d2:lX D2 f2:=y0;have z2:=aA y4;have h7:=aA d1;have x6:=aA d2;have O1:=aA y3;have O2:=aA y2;clear y1 y0 d1 d2 y4 y3 y2
 by_cases hs:Maps.size D1=Maps.size D2
 ·have HS:=aA hs;go_in;go_wp2_with (first
   | (at_len;refine wpList_len_own _ rfl (.tmp 11) 173 rfl 3 172 Tryz.underlying173 bP m1 n1 D1 rfl O1.out ?_)
   | (at_len;refine wpList_len_own _ rfl (.tmp 13) 173 rfl 3 172 Tryz.underlying173 bP m2 n2 D2 rfl O2.out ?_)
   | (at_range;refine wpList_range_own _ rfl _ 173 rfl 3 172 dZ Tryz.underlying173 bP m1 n1 D1 rfl O1.out ?_;intro w0 h9 y6 z8))
  go_frame;clear hs;have Q0:Only [] w w0:=(Only.refl [] w).grown y6 (fun k hk=>by cases hk);go_loopw [7] (fun _ wr=>∃ z cnt,wr.ranges prog 3 bP m1 w.heap.size n1 D1 z cnt/\Hid (∀ k,wfI k->(f1 k).isSome=true->z (.int .i64 k)=false->(f2 k).isSome=true/\g k=true)/\Only [] w wr) (fun _ wr=>wr.rangeLeft m1 w.heap.size)
  case atStart=>
   refine ⟨_,_,h9,fun k hk h3 h4=>?_,Q0⟩;rw [(h7.out k hk).1,h3] at h4
   cases h4
  case round=>
   clear h9 y6 z8 Q0;obtain ⟨z,cnt,z1,HF,hO⟩:=hrel;have x8:=aA z1;have HO:=aA hO;clear z1 hO;go_wp2_with (at_next;refine eG rfl _ rfl m1 w.heap.size n1 D1 z cnt _ h7.out rfl x8.out ?_ ?_)
   ·intro _ y8;have z3:=aA y8;clear y8;go_wp2;exact hR.out _ _ ⟨true,rfl,⟨fun _=>EqM.of O1.out O2.out h7.out x6.out HS.out (fun k hk e=>HF.out k hk e (z3.out _)),fun _=>rfl⟩,HO.out⟩
   intro k c w1 h8 x5 y9 y5 x1 z0 y7 z9 a1;have h6:Hid (Only [] w w1):=HO.out.grown y7 (fun j hj=>by cases hj;exact .inr (Nat.le_refl _));have y:=(z4.out.only (h6.out.vM (S:=fun _=>False)) (fun x=>x)).look_ok x5;have z7:h8<wr.rangeLeft m1 w.heap.size:=by rw [x8.out.left_eq];exact z0
   have z6:=aA x1;have x3:=aA y5;have a0:=aA y9;have x9:Hid (wfI k):=x5;have h0:Hid (∀ j,wfI j->(f1 j).isSome=true->(z (.int .i64 j) && !(Lit.int .i64 j).sameKey (.int .i64 k))=false->(f2 k).isSome=true->g k=true->(f2 j).isSome=true/\g j=true):=fun j hj e1 e2 e3 e4=>by
    by_cases e:j=k
    ·subst e;exact ⟨e3,e4⟩
    refine HF.out j hj e1 ?_;rw [aID j k x5] at e2;simp [e] at e2;exact e2
   clear x1 y9 y5 z0 y7 z9
   cases d:f2 k with
   | none=>
    rw [d] at y;replace y:(Instr.lookup 173 (.map (some m2)) (.int .i64 k) true).run prog w1=.ok (.tuple #[.pointer none,.bool false]) w1:=y;have x2:=aA d;clear d h0;go_wp2;exact hR.out _ _ ⟨false,rfl,⟨fun h=>(by cases h),fun h=>absurd h (EqM.no1 x9.out (by rw [x3.out];rfl) x2.out)⟩,h6.out⟩
   | some b2=>
    rw [d] at y;replace y:(Instr.lookup 173 (.map (some m2)) (.int .i64 k) true).run prog w1=.ok (.tuple #[.pointer (some ⟨b2,0,none⟩),.bool true]) w1:=y;have hc:=z2.out k c b2 w1 h6.out x3.out d;have x2:=aA d;clear d
    cases hg:g k
    ·rw [hg] at hc;have HG:=aA hg;clear hg h0;go_wp2_with fail;refine hc.mono ?_;rintro e w2 ⟨rfl,h5⟩;have x4:=aA (h6.out.trans h5 (by simp));clear h5 hc y;go_wp2;exact hR.out _ _ ⟨false,rfl,⟨fun h=>(by cases h),fun h=>absurd h (EqM.no2 x9.out (by rw [x3.out];rfl) HG.out)⟩,x4.out⟩
    rw [hg] at hc;have HG:=aA hg;clear hg;go_wp2_with fail;refine hc.mono ?_;rintro e w2 ⟨rfl,h5⟩;have x4:=aA (h6.out.trans h5 (by simp));have x7:=aA (pF z6.out (h5.vM (S:=fun _=>False)) (fun x=>x) (fun x=>x));clear h5 hc y;go_wp2;exact ⟨⟨_,h8,x7.out,fun j hj e1 e2=>h0.out j hj e1 e2 (by rw [x2.out];rfl) HG.out,x4.out⟩,by rw [x7.out.left_eq];exact z7⟩
 have z5:=aA hs;go_in;go_wp2_with (first
  | (at_len;refine wpList_len_own _ rfl (.tmp 11) 173 rfl 3 172 Tryz.underlying173 bP m1 n1 D1 rfl O1.out ?_)
  | (at_len;refine wpList_len_own _ rfl (.tmp 13) 173 rfl 3 172 Tryz.underlying173 bP m2 n2 D2 rfl O2.out ?_))
 exact hR.out _ _ ⟨false,rfl,⟨fun h=>(by cases h),fun h=>absurd (h.size O1.out O2.out h7.out x6.out) z5.out⟩,Only.refl _ _⟩
def aKI (M y:Hp):Prop:=∀ k,wfI k->(M.ob k).isSome=(y.ob k).isSome/\∀ o o2,M.ob k=some o->y.ob k=some o2->qV o o2=true
def aCL (M y:Hp) (k:Int):Bool:=match M.ob k,y.ob k with|some o,some o2=>qV o o2|_,_=>true
section
variable {L L2:Nat->Option Lb} {hb hb2:Nat} {M M2:Hp} {X X2:HX}
theorem aKB (w:World) (h:dJ w L hb M X) (hk:M.Ok) (h2:dJ w L2 hb2 M2 X2) (h0:M2.Ok) (p1 p2:Nat)
  (e1:w.cell? ⟨p1,0,none⟩=some (.pointer (some ⟨hb,0,none⟩))) (e2:w.cell? ⟨p2,0,none⟩=some (.pointer (some ⟨hb2,0,none⟩))) :
  Calls prog 138 #[.map (some X.mb),.map (some X2.mb),.func (.func 139) #[] #[.pointer (some ⟨p1,0,none⟩),.pointer (some ⟨p2,0,none⟩)]] w fun e w'=>
   ∃ r,e=.returned (.bool r)/\(r=true↔aKI M M2)/\Only [] w w':=by
 refine (aBy w p1 p2 X.mb X2.mb 192 192 _ _ (aCL M M2) h.mp h2.mp (fun k b1 b2 w' y f1 f2=>?_)).mono ?_
 ·cases o1:M.ob k with
  | none=>rw [o1] at f1;cases f1
  | some u1=>
   cases z:M2.ob k with
   | none=>rw [z] at f2;cases f2
   | some u2=>
    rw [o1] at f1;rw [z] at f2;simp at f1 f2;subst f1 f2;have:=aHN w' (h.aK y) hk (h2.aK y) h0 o1 z p1 p2 (y.aP e1) (y.aP e2);rwa [show qV u1 u2=aCL M M2 k by unfold aCL;rw [o1,z]] at this
 rintro e w' ⟨r,rfl,hr,h1⟩;refine ⟨r,rfl,?_,h1⟩;rw [hr];constructor
 ·intro hq k hk;obtain ⟨q1,q2⟩:=hq k hk;simp at q1 q2;refine ⟨q1,fun o z y d=>?_⟩;have:=q2 (by rw [y];rfl);unfold aCL at this;rwa [y,d] at this
 intro hq k hk;obtain ⟨q1,q2⟩:=hq k hk;refine ⟨by simpa using q1,fun e=>?_⟩;unfold aCL
 cases y:M.ob k with
 | none=>rfl
 | some o=>
  cases d:M2.ob k with
  | none=>rfl
  | some z=>exact q2 o z y d
end
theorem aNr (w:World) (v y:Value):((w.alloc (.cells #[v] 30)).alloc (.cells #[y] 30)).cell? ⟨w.heap.size,0,none⟩=some v/\((w.alloc (.cells #[v] 30)).alloc (.cells #[y] 30)).cell? ⟨w.heap.size+1,0,none⟩=some y/\Only [] w ((w.alloc (.cells #[v] 30)).alloc (.cells #[y] 30)):=by
 refine ⟨?_,?_,((Only.refl [] w).alloc _).alloc _⟩
 ·exact ((Row.new w 30 [v]).alloc _).cell 0 rfl
 have:=Row.new (w.alloc (.cells #[v] 30)) 30 [y];rw [World.size_alloc] at this;exact this.cell 0 rfl
section
variable {L L2:Nat->Option Lb} {hb hb2:Nat} {M M2:Hp} {X X2:HX}
theorem aKA (w:World) (h:dJ w L hb M X) (hk:M.Ok) (h2:dJ w L2 hb2 M2 X2) (h0:M2.Ok) :
  Calls prog 65 #[.pointer (some ⟨hb,0,none⟩),.pointer (some ⟨hb2,0,none⟩)] w fun e w'=>
   ∃ r,e=.returned (.bool r)/\(r=true↔aKI M M2)/\Only [] w w':=by
 refine aF fun R hR=>?_;obtain ⟨b1,b2,ho⟩:=aNr w (.pointer (some ⟨hb,0,none⟩)) (.pointer (some ⟨hb2,0,none⟩));have c1:=gG _ (h.aK ho);have c2:=gG _ (h2.aK ho);have h5:∀ (fn:Fn) (first cap:Array Value) (w:World),(Instr.makeFunc fn first cap).run prog w=.ok (.func fn first cap) w:=fun _ _ _ _=>rfl;have HO:=aA ho;have H:=aA h;have H2:=aA h2;have HK:=aA hk;have h1:=aA h0;clear ho h h2 hk h0;go_in;go_wp2_with fail;generalize ((w.alloc (.cells #[.pointer (some ⟨hb,0,none⟩)] 30)).alloc (.cells #[.pointer (some ⟨hb2,0,none⟩)] 30))=d at*;generalize w.heap.size+1=p2 at*;generalize w.heap.size=p1 at*;refine c1.mono ?_;rintro e _ ⟨rfl,rfl⟩;clear c1;go_wp2_with fail;refine c2.mono ?_;rintro e _ ⟨rfl,rfl⟩;clear c2;go_wp2_with fail;have hx:=H.out.aK HO.out;have z:=H2.out.aK HO.out;have d1:d.drew.cell? ⟨p1,0,none⟩=_:=b1;have d2:d.drew.cell? ⟨p2,0,none⟩=_:=b2;have d3:d.drew.cell? ⟨hb,1,none⟩=_:=hx.cells.2.1;have d4:d.drew.cell? ⟨hb2,1,none⟩=_:=z.cells.2.1;have HM:=aA (aKB d.drew (hx.drew) HK.out (z.drew) h1.out p1 p2 d1 d2);have QD:Hid (Only [] w d.drew):=HO.out.drew;clear hx z b1 b2 H H2;generalize X.mb=h3 at*;generalize X2.mb=h4 at*;go_region_held3 (fun w'=>w'.cell? ⟨p1,0,none⟩=some (.pointer (some ⟨hb,0,none⟩))/\w'.cell? ⟨p2,0,none⟩=some (.pointer (some ⟨hb2,0,none⟩))/\w'.cell? ⟨hb,1,none⟩=some (.map (some h3))/\w'.cell? ⟨hb2,1,none⟩=some (.map (some h4)))
  (first
   | (exact ⟨d1,d2,d3,d4⟩)
   | (exact ⟨y.aP d1,y.aP d2,y.aP d3,y.aP d4⟩))
  (first
   | (go_at_call 138;refine HM.out.mono ?_;rintro e w4 ⟨r,rfl,hr,y⟩))
 go_wp2;exact hR.out _ _ ⟨r,rfl,hr,QD.out.trans y (by simp)⟩
end
end Go.Proofs.YthflghdaejbdkaaGreat
namespace Go.Proofs.YthflghdaejbdkaaGreat
open _root_.Go.Proofs.Tryz (prog)
set_option linter.unusedVariables false
set_option maxRecDepth 100000
theorem aGe {P:Pl} {a n:Int} (x:Nat):(((P.setCell a n).2).pg x).cls=(P.pg x).cls/\(((P.setCell a n).2).pg x).used=(P.pg x).used:=by
 unfold Pl.setCell;split
 ·by_cases e:x=a.toNat / 16
  ·rw [e];simp only [Pl.aQ];exact ⟨trivial,trivial⟩
  simp only [Pl.aU _ _ e];exact ⟨trivial,trivial⟩
 exact ⟨rfl,rfl⟩
theorem Hp.aCH {M:Hp} {k:Nat} {x:Int}:x∈M.aX k↔∃ j:Nat,j<k/\x=(j:Int)+1/\(M.ob x).isSome=true:=by
 induction k with
 | zero=>simp [Hp.aX]
 | succ k ih=>
  unfold Hp.aX;rw [List.mem_append,ih];constructor
  ·rintro (⟨j,d,y,z⟩|h)
   ·exact ⟨j,by omega,y,z⟩
   split at h
   ·rename_i hs;simp at h;subst h;exact ⟨k,by omega,rfl,hs⟩
   simp at h
  rintro ⟨j,d,y,z⟩
  by_cases e:j=k
  ·right;subst e;subst y;rw [if_pos z];simp
  exact .inl ⟨j,by omega,y,z⟩
theorem Hp.yR {M:Hp} {i:Nat} (y:i<M.handles.length):(M.ob (gI M.handles i)).isSome=true:=by
 have:gI M.handles i∈M.handles:=kN.2 ⟨i,y,rfl⟩;obtain ⟨_,_,_,h⟩:=Hp.aCH.1 this;exact h
end Go.Proofs.YthflghdaejbdkaaGreat
namespace Go.Proofs.YthflghdaejbdkaaGreat
open _root_.Go.Proofs.Tryz (prog)
set_option linter.unusedVariables false
theorem aLe {f g:Nat->Nat} {i j n:Nat} (hi:i<n) (hj:j<n) (y:i≠j) (ho:∀ x,x<n->x≠i->x≠j->g x=f x) (h:g i+g j=f i+f j):lU g n=lU f n:=by
 have z:=sN (f:=f) (g:=fun x=>if x=i then g i else f x) hi (fun x _ hx=>by simp [hx]);have d:=sN (f:=fun x=>if x=i then g i else f x) (g:=g) hj (fun x hx hxj=>by
  by_cases e:x=i
  ·simp [e]
  simp only [e,if_false];exact ho x hx e hxj)
 simp only [if_true,y.symm,if_false] at z d;omega
theorem Pl.aEm {P:Pl} (h:P.ok) {i j:Nat} (d:P.Pair i j) :
  (((P.moved i j).pg i).cls=(P.pg i).cls/\((P.moved i j).pg i).count+1=(P.pg i).count\/((P.moved i j).pg i).cls = -1/\(P.pg i).count=1)/\((P.moved i j).pg j).cls=(P.pg i).cls/\((P.moved i j).pg j).count=(P.pg j).count+1:=by
 obtain ⟨y,h2,h3⟩:=Pl.yD h d;refine ⟨?_,?_,h2⟩
 ·have e:(P.moved i j).pg i=(P.pg i).release ((P.pg i).top (P.pg i).cls):=by unfold Pl.moved;rw [Pl.aQ]
  rw [e] at y ⊢;unfold Pg.release Pg.count at y;unfold Pg.release;simp only at y ⊢
  by_cases z:cnt (up (P.pg i).used ((P.pg i).top (P.pg i).cls) false) 8=0
  ·right;simp only [z,if_true];rw [z] at y;exact ⟨trivial,y.symm⟩
  left;simp only [z,if_false];exact ⟨trivial,y⟩
 unfold Pl.moved;rw [Pl.aU _ _ d.ne.symm,Pl.aQ];rfl
theorem Pl.sK {P:Pl} (h:P.ok) {i j:Nat} (y:P.Pair i j) (c:Int) (hc:IsC c):(P.moved i j).aBV c P.n=P.aBV c P.n:=by
 obtain ⟨hi,z,d⟩:=Pl.aEm h y;obtain ⟨_,_,h3⟩:=Pl.yD h y;refine aLe y.hi y.hj y.ne (fun x _ h0 h1=>by unfold Pl.aDL;rw [h3 x h0 h1]) ?_;unfold Pl.aDL;rw [z,d,y.same]
 by_cases e:(P.pg i).cls=c
 ·rw [if_pos e,if_pos e,if_pos e];rcases hi with ⟨a,b⟩|⟨a,b⟩
  ·rw [a,if_pos e];omega
  rw [a,if_neg (by rcases hc with e|e|e<;>omega)];omega
 rw [if_neg e,if_neg e,if_neg e];rcases hi with ⟨a,b⟩|⟨a,b⟩
 ·rw [a,if_neg e]
 rw [a,if_neg (by rcases hc with e|e|e<;>omega)]
set_option maxRecDepth 100000
def Pl.all (P:Pl):Nat:=lU (fun i=>(P.pg i).count) P.n
section
variable {P:Pl}
theorem Pl.aFN (h:P.ok):P.aBV 0 P.n+P.aBV 1 P.n+P.aBV 2 P.n=P.all:=by
 rw [Pl.aKS h,Pl.yL h];rfl
theorem Pl.lT (h:P.ok) (a n:Int):(P.setCell a n).2.all=P.all:=by
 unfold Pl.all;rw [(h.setCell a n).2];refine sO fun i _=>?_;unfold Pg.count;rw [(aGe i).2]
theorem Pl.aKz (h:P.ok) {c:Int} (d:(P.alloc c).2.1=0):(P.alloc c).2.2.all=P.all+1:=by
 rcases P.gX c with hb|⟨y,⟨i,z,hp,hb⟩|⟨hn,⟨i,z,hp,hb⟩|hf⟩⟩
 ·rw [Pl.kD hb] at d;cases d
 ·rw [Pl.fU y z hp hb];have hg:=(h i z).gap y hp;have hs:=y.sz;have:=sN (f:=fun x=>(P.pg x).count) (g:=fun x=>((P.set i ((P.pg i).take c ((P.pg i).gap c) fun _=>0)).pg x).count) z (fun j hj e=>by simp only [Pl.aU _ _ e]);simp only [Pl.aQ] at this;have e2:((P.pg i).take c ((P.pg i).gap c) fun _=>0).count=(P.pg i).count+1:=aBD (by omega) hg.2;rw [e2] at this;show lU (fun x=>((P.set i ((P.pg i).take c ((P.pg i).gap c) fun _=>0)).pg x).count) P.n=P.all+1;unfold Pl.all;omega
 ·rw [Pl.iI y hn z hp hb];have hg:=(h i z).ge;have hu:=(h i z).free (by omega) 0;have:=sN (f:=fun x=>(P.pg x).count) (g:=fun x=>((P.set i ((P.pg i).take c 0 fun _=>0)).pg x).count) z (fun j hj e=>by simp only [Pl.aU _ _ e]);simp only [Pl.aQ] at this;have e2:((P.pg i).take c 0 fun _=>0).count=(P.pg i).count+1:=aBD (by omega) hu;rw [e2] at this;show lU (fun x=>((P.set i ((P.pg i).take c 0 fun _=>0)).pg x).count) P.n=P.all+1;unfold Pl.all;omega
 rw [Pl.fV y hn hf] at d;cases d
theorem Pl.aKy {c a:Int} {v:Nat->Int} (z:IsC c) (hb:Blk P c a v):(P.free a).2.all+1=P.all:=by
 have d:=hb.begin z;obtain ⟨i,l,rfl,y⟩:=hb;have hr:=z.blk y.kb;have h0:=z.mul_div l;have s:=z.sz;have h1:=y.kb;have t1:(((16*i+l*bsz c:Nat):Int)).toNat / 16=i:=by rw [Int.toNat_natCast];omega
 have t2:(((16*i+l*bsz c:Nat):Int)).toNat % 16=l*bsz c:=by rw [Int.toNat_natCast];omega
 unfold Pl.free;rw [d];simp only [if_true,t1,t2];rw [y.cls,h0.1];have:=sN (f:=fun x=>(P.pg x).count) (g:=fun x=>((P.set i ((P.pg i).release l)).pg x).count) y.hi (fun j hj e=>by simp only [Pl.aU _ _ e]);simp only [Pl.aQ] at this;have e2:((P.pg i).release l).count+1=(P.pg i).count:=zL (by omega) y.used;show lU (fun x=>((P.set i ((P.pg i).release l)).pg x).count) P.n+1=P.all;unfold Pl.all;omega
theorem Pl.aMP (h:P.ok):P.move.2.2.2.all=P.all:=by
 cases z:P.pair with
 | none=>rw [Pl.fF z]
 | some x=>
  obtain ⟨i,j⟩:=x;have y:=Pl.jE z;rw [Pl.fE z];show (P.moved i j).all=P.all;have d:=(h.moved y).2;rw [<-Pl.aFN (h.moved y).1,<-Pl.aFN h,d,Pl.sK h y 0 (.inl rfl),Pl.sK h y 1 (.inr (.inl rfl)),Pl.sK h y 2 (.inr (.inr rfl))]
theorem aHM (d:P.ok) {l:List Int} (hl:∀ m,m<l.length->IsC (gI l m)):∀ k,k<=l.length->∀ bs Q,dD P l k=some (bs,Q)->Q.all=P.all+k:=by
 intro k
 induction k with
 | zero=>
  intro _ bs Q e;unfold dD at e
  cases e
  rfl
 | succ k ih=>
  intro hk bs Q e;unfold dD at e
  cases z:dD P l k with
  | none=>rw [z] at e;cases e
  | some x=>
   obtain ⟨y,Q'⟩:=x;rw [z] at e;simp only at e;split at e
   ·rename_i he
    cases e
    have s:=dW d hl k (by omega) y Q' z;rw [Pl.aKz s.ok he,ih (by omega) y Q' z];omega
   cases e
theorem aLx (y:P.ok) (a:Int) (l:List Int) (k:Nat):(vH P a l k).all=P.all:=by
 induction k with
 | zero=>rfl
 | succ k z=>unfold vH;rw [Pl.lT (aCp y a l k).1,z]
theorem aJu (y:P.ok) (h:Int) (bs:List Int):(fO P h bs).all=P.all:=by
 unfold fO;rw [aLx (y.setCell _ _).1,Pl.lT y]
theorem aJX {l:List Int} {cs:List Int} (y:∀ m,m<l.length->IsC (gI cs m)) (hb:∀ m,m<l.length->∃ v,Blk P (gI cs m) (gI l m) v) (hd:∀ m,m<l.length->∀ m',m'<l.length->gI l m=gI l m'->m=m') :
  ∀ k,k<=l.length->(iH P l k).all+k=P.all:=by
 intro k
 induction k with
 | zero=>intro _;rfl
 | succ k ih=>
  intro hk;obtain ⟨v,d⟩:=hb k (by omega);have z:Blk (iH P l k) (gI cs k) (gI l k) v:=zC (y k (by omega)) d (fun m hm e=>by have:=hd m (by omega) k (by omega) e;omega);have:=Pl.aKy (y k (by omega)) z;have:=ih (by omega);show ((iH P l k).free (gI l k)).2.all+(k+1)=P.all;omega
end
def aDG (o:Option Th):Nat:=match o with|none=>0|some o=>o.blocks.length
def vP (ob:Int->Option Th):Nat:=lU (fun k=>aDG (ob ((k:Int)+1))) 192
theorem qP {ob:Int->Option Th} {h:Int} (z:1<=h/\h<=192) (x:Option Th):vP (eU ob h x)+aDG (ob h)=vP ob+aDG x:=by
 obtain ⟨i,y,rfl⟩:∃ i:Nat,i<192/\h=(i:Int)+1:=⟨(h - 1).toNat,by omega,by omega⟩;have:=sN (f:=fun k=>aDG (ob ((k:Int)+1))) (g:=fun k=>aDG (eU ob ((i:Int)+1) x ((k:Int)+1))) y (fun j hj e=>by show aDG (eU ob ((i:Int)+1) x ((j:Int)+1))=aDG (ob ((j:Int)+1));rw [bF _ _ (by omega)]);simp only [aY] at this;exact this
def Hp.Full (M:Hp):Prop:=M.P.all=vP M.ob
structure Hp.OkF (M:Hp):Prop where
 ok:M.Ok
 full:M.Full
section
variable {M:Hp} {h:Int} {o:Th}
theorem Hp.OkF.new {n:Nat} (e:1<=n) (y:n<=24):(Hp.new n).OkF:=⟨Hp.Ok.new e y,by
 show lU (fun i=>Pg.zero.count) n=lU (fun k=>0) 192;have z:lU (fun i=>Pg.zero.count) n=0:=qH.2 (fun i _=>oJ (fun _ _=>rfl));have d:lU (fun k=>0) 192=0:=qH.2 (fun i _=>rfl);rw [z,d]⟩
theorem Hp.OkF.add (z:M.OkF) (ho:o.ok1) (hz:∀ s,gI o.slots s=0):(M.add o).2.2.OkF:=by
 refine ⟨z.ok.add ho hz,?_⟩;unfold Hp.add;split
 ·rename_i hl;have y:=M.oC hl
  cases e:dD M.P (aS o.slots.length) (aS o.slots.length).length with
  | none=>exact z.full
  | some x=>
   obtain ⟨bs,Q⟩:=x;have s:=dW z.ok.p (l:=aS o.slots.length) (fun m d=>dO _ d) _ (Nat.le_refl _) bs Q e;have ha:=aHM z.ok.p (l:=aS o.slots.length) (fun m d=>dO _ d) _ (Nat.le_refl _) bs Q e;have hs:=qP (ob:=M.ob) (h:=(M.least:Int)+1) (by omega) (some { o with blocks:=bs });rw [y] at hs;have hf:M.P.all=vP M.ob:=z.full;show (fO Q ((M.least:Int)+1) bs).all=vP (eU M.ob ((M.least:Int)+1) (some { o with blocks:=bs }));rw [aJu s.ok];have e2:aDG (some ({ o with blocks:=bs }:Th))=bs.length:=rfl;have e3:aDG none=0:=rfl;have:=s.len;omega
 exact z.full
theorem Hp.OkF.aH (d:M.OkF) (c:Int) (y:List Bool):(M.aH c y).2.2.OkF:=by
 unfold Hp.aH;split
 ·exact d
 rename_i z;exact d.add (pJ z).1 (pJ z).2
theorem Hp.OkF.aG (y:M.OkF) (k c n:Int):(M.aG k c n).2.2.OkF:=by
 unfold Hp.aG;split
 ·exact y
 rename_i z;split
 ·rename_i hd;exact y.add (pX z hd).1 (pX z hd).2
 exact y
theorem Hp.OkF.release (y:M.OkF) (h:Int):(M.release h).2.OkF:=by
 refine ⟨y.ok.release h,?_⟩;unfold Hp.release
 cases e:M.ob h with
 | none=>exact y.full
 | some o=>
  simp only;split
  ·exact y.full
  have hr:=y.ok.hr h o e;have hs:=qP (ob:=M.ob) hr none;have hl:=aJX (P:=M.P) (l:=o.blocks) (cs:=aS o.slots.length) (fun m z=>y.ok.isC e z) (fun m z=>⟨_,y.ok.bk h o e m z⟩) (fun m z m' hm' d=>(y.ok.dj h o e h o e m z m' hm' d).2) _ (Nat.le_refl _);have hf:M.P.all=vP M.ob:=y.full;show (iH M.P o.blocks o.blocks.length).all=vP (eU M.ob h none);rw [e] at hs;have d:aDG (some o)=o.blocks.length:=rfl;have e3:aDG none=0:=rfl;omega
theorem Hp.OkF.set (y:M.OkF) (h s v:Int):(M.set h s v).2.OkF:=by
 refine ⟨y.ok.set h s v,?_⟩;unfold Hp.set
 cases e:M.ob h with
 | none=>exact y.full
 | some o=>
  simp only;split
  ·exact y.full
  split
  ·have z:=y.ok.hr h o e;have hs:=qP (ob:=M.ob) z (some (o.put s.toNat v));have hf:M.P.all=vP M.ob:=y.full;show ((M.P.setCell (o.addr s.toNat) v).2).all=vP (eU M.ob h (some (o.put s.toNat v)));rw [Pl.lT y.ok.p];rw [e] at hs;have d:aDG (some o)=o.blocks.length:=rfl;have e3:aDG (some (o.put s.toNat v))=o.blocks.length:=rfl;omega
  exact y.full
theorem Hp.OkF.move (y:M.OkF):M.move.2.2.OkF:=by
 refine ⟨y.ok.move,?_⟩;have hm:=Pl.aMP y.ok.p;have hf:M.P.all=vP M.ob:=y.full;unfold Hp.move;split
 ·split
  ·rename_i o z hd;have d:M.owner M.P.move.1<192:=by simpa using hd
   have hs:=qP (ob:=M.ob) (h:=(M.owner M.P.move.1:Int)+1) (by omega) (some (o.moved (o.place M.P.move.1) M.P.move.2.1));rw [z] at hs;have e:aDG (some o)=o.blocks.length:=rfl;have e3:aDG (some (o.moved (o.place M.P.move.1) M.P.move.2.1))=o.blocks.length:=by
    show (o.blocks.set _ _).length=_;simp
   show (if _ then M.P.move.2.2.2 else _).all=vP (eU M.ob _ _);split
   ·omega
   rw [Pl.lT y.ok.p.move.1];omega
  show M.P.move.2.2.2.all=vP M.ob;omega
 exact y.full
end
end Go.Proofs.YthflghdaejbdkaaGreat
