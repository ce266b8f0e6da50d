/- Lemmas of this claim. -/
import Derived.Deep.DeepFit
import Derived.Test.YthflghdaejbdkaaGreatXbObjD
import Derived.OwnWalk
import Derived.Test.YthflghdaejbdkaaGreatXbQModel
import Derived.Test.YthflghdaejbdkaaGreatXbLib
import Derived.Deep.DeepCutAuto
import Derived.Deep.CutBlock
namespace Go.Proofs.YthflghdaejbdkaaGreat
open _root_.Go.Proofs.Tryz (prog)
open Go.RowKit Go.Maps
set_option maxHeartbeats 3200000
set_option maxRecDepth 100000
set_option linter.unusedVariables false
def aBt (w:World) (v:Value) (l:List Bool):Prop:=
 (v=.slice none 0 0/\l=[])\/∃ y c,v=.slice (some y) l.length c/\∀ i,i<l.length->w.cell? (y.add i)=some (.bool (gB l i))
theorem aBt.only {w w':World} {v:Value} {l:List Bool} (h:aBt w v l) (ho:Only [] w w'):aBt w' v l:=by
 rcases h with h|⟨y,c,z,d⟩
 ·exact .inl h
 exact .inr ⟨y,c,z,fun i e=>ho.cell (d i e) (by simp)⟩
theorem aBt.len {w:World} {v:Value} {l:List Bool} (h:aBt w v l):∃ a c,v=.slice a l.length c:=by
 rcases h with ⟨y,z⟩|⟨d,c,y,z⟩
 ·exact ⟨none,0,by rw [y,z];rfl⟩
 exact ⟨_,_,y⟩
theorem aBm (w:World) (v:Value) (l:List Bool) (h:aBt w v l) (hl:l.length<=1000000) :
  Calls prog 165 #[v] w fun e w'=>∃ v',e=.returned v'/\Bls w' w.heap.size v' l/\Only [] w w':=by
 rcases h with ⟨rfl,rfl⟩|⟨ad,c,rfl,d⟩
 ·exact (aIh w).mono (fun e w' ⟨z,h2⟩=>⟨_,z,Bls.nil _ _,h2▸Only.refl _ _⟩)
 obtain ⟨n,y⟩:∃ n,n=l.length:=⟨_,rfl⟩;rw [<-y] at d hl ⊢;have hq:=fun (wx:World)=>Lib.run_eql_slice_nil (P:=prog) wx 50 4 (some ad) n c 0 0 Tryz.underlying50;have HL:=aA y;have HC:=aA d;clear y d;refine aF fun R hR=>?_;go_in;go_wp2_with (at_builtin;refine aBq rfl _ _ rfl w.heap.size _ _ rfl (Bls.made w) ad n c l rfl ?_ ?_ ?_ ?_ ?_)
 ·exact HL.o.symm
 ·intro j u hu;have hj:j<n:=by have:=(List.getElem?_eq_some_iff.1 hu).1;have:=HL.o;omega
  have z:=HC.o j hj;rw [((Only.refl [] w).alloc _).cell z (by simp),gB,hu];rfl
 ·simp;omega
 ·simp
 intro v w1 hv ho y h0;clear y;go_wp2;exact hR.o _ _ ⟨v,rfl,hv,((Only.refl _ _).alloc _).trans ho (fun x hx=>.inr (by simp [Value.ownBlock] at hx;omega))⟩
section
variable {L:Nat->Option Lb} {hb:Nat} {M:Hp} {X:HX}
theorem rU (w:World) (h:dO w L hb M X) (hk:M.Ok) (c:Int) (v:Value) (l:List Bool) (hv:aBt w v l) (hl:l.length<=1000000) :
  Calls prog 82 #[.pointer (some ⟨hb,0,none⟩),.int .i64 c,v] w (wJ w L hb (.tuple #[.int .i64 (M.aH c l).1,.int .i64 (M.aH c l).2.1]) (M.aH c l).2.2):=by
 refine aF fun R hR=>?_;have h1:=iK w h;have d:=aBm w v l hv hl;obtain ⟨a,cp,h5⟩:=hv.len;subst h5;obtain ⟨n,hn⟩:∃ n,n=l.length:=⟨_,rfl⟩;rw [<-hn] at d ⊢
 by_cases y:c<0\/10<=c\/7<l.length
 ·have hr:M.aH c l=(0,1,M):=by unfold Hp.aH;rw [if_pos y]
  rw [hr] at hR;have HD:=aA (wJ.none (r:=.tuple #[.int .i64 0,.int .i64 1]) h (lX.refl w));rw [<-hn] at y
  by_cases b1:c<0
  ·clear h hr y d hv hn hk;go_in;go_wp2_with fail;go_fit h1;rintro e _ ⟨rfl,rfl⟩;go_wp2;exact hR.o _ _ HD.o
  by_cases b2:10<=c
  ·clear h hr y d hv hn hk;go_in;go_wp2_with fail;go_fit h1;rintro e _ ⟨rfl,rfl⟩;go_wp2;exact hR.o _ _ HD.o
  have b3:(7:Int)<n:=by omega
  clear h hr y d hv hn hk;go_in;go_wp2_with fail;go_fit h1;rintro e _ ⟨rfl,rfl⟩;go_wp2;exact hR.o _ _ HD.o
 have hr:M.aH c l=M.add (vS c l):=by unfold Hp.aH;rw [if_neg y]
 rw [hr] at hR;rw [<-hn] at y;have b1:¬ c<0:=by omega
 have b2:¬ 10<=c:=by omega
 have b3:¬ (7:Int)<n:=by omega
 have h4:Hid (vS c l).ok1:=⟨.inl ⟨rfl,by show 0<=c;omega,by show c<10;omega,by show (List.replicate l.length (0:Int)).length<=7;simp;omega⟩,by show l.length=(List.replicate l.length (0:Int)).length;simp⟩;have HH:=aA h;have HK:=aA hk;have HN:=aA hn;clear h hr y hv hn hk;go_in;go_wp2_with fail;go_fit h1;rintro e _ ⟨rfl,rfl⟩;go_wp2_with fail;go_fit d;rintro e w3 ⟨v3,rfl,h0,h3⟩;obtain ⟨a3,c3,h2⟩:=h0.len;rw [<-HN.o] at h2;subst h2;have z:=aLm (w0:=w) w3 HH.o HK.o h3 (vS c l) h4.o _ h0;rw [show (vS c l).kind=2 from rfl,show (vS c l).cls=c from rfl,show (vS c l).slots.length=n by rw [HN.o];show (List.replicate l.length (0:Int)).length=_;simp] at z;generalize M.add (vS c l)=r at z hR;obtain ⟨r1,r2,r3⟩:=r;clear h0 h3 d;go_wp2_with fail;go_fit z;rintro e w4 ⟨rfl,hd⟩;have HD:=aA hd;clear hd z;go_wp2;exact hR.o _ _ ⟨rfl,HD.o⟩
theorem vY (w:World) (h:dO w L hb M X) (hk:M.Ok) (k c n:Int) :
  Calls prog 120 #[.pointer (some ⟨hb,0,none⟩),.int .i64 k,.int .i64 c,.int .i64 n] w (wJ w L hb (.tuple #[.int .i64 (M.aG k c n).1,.int .i64 (M.aG k c n).2.1]) (M.aG k c n).2.2):=by
 refine aF fun R hR=>?_;have h1:=iK w h;have HD:=aA (wJ.none (r:=.tuple #[.int .i64 0,.int .i64 1]) h (lX.refl w))
 by_cases z:n<0\/48<n
 ·have hr:M.aG k c n=(0,1,M):=by unfold Hp.aG;rw [if_pos z]
  rw [hr] at hR
  by_cases b1:n<0
  ·clear h hr z hk;go_in;go_wp2_with fail;go_fit h1;rintro e _ ⟨rfl,rfl⟩;go_wp2;exact hR.o _ _ HD.o
  have b2:48<n:=by omega
  clear h hr z hk;go_in;go_wp2_with fail;go_fit h1;rintro e _ ⟨rfl,rfl⟩;go_wp2;exact hR.o _ _ HD.o
 have b1:¬ n<0:=by omega
 have b2:¬ 48<n:=by omega
 by_cases y:(k=3/\c=0)\/(k=4/\0<=c/\c<10)
 ·have hr:M.aG k c n=M.add (qO k c n.toNat):=by unfold Hp.aG;rw [if_neg z,if_pos y]
  rw [hr] at hR;have h0:(qO k c n.toNat).slots.length=n.toNat:=by show (List.replicate n.toNat (0:Int)).length=_;simp
  have h4:(qO k c n.toNat).ok1:=by
   refine ⟨?_,by show (List.replicate n.toNat _).length=(List.replicate n.toNat (0:Int)).length;simp⟩;rcases y with ⟨rfl,rfl⟩|⟨rfl,h1,h2⟩
   ·refine .inr (.inl ⟨rfl,rfl,by rw [h0];omega,fun s=>?_⟩);show gB (List.replicate n.toNat (decide ((3:Int)=4))) s=false;unfold gB;rw [List.getElem?_replicate];split<;>rfl
   refine .inr (.inr ⟨rfl,h1,h2,by rw [h0];omega,fun s hs=>?_⟩);show gB (List.replicate n.toNat (decide ((4:Int)=4))) s=true;unfold gB;rw [List.getElem?_replicate,if_pos (by rw [<-h0];exact hs)];rfl
  have h3:¬ k=2:=by omega
  have h5:(qO k c n.toNat).kP=[]:=by unfold Th.kP;exact if_neg h3
  have d:=aLm (w0:=w) w h hk (Only.refl _ _) (qO k c n.toNat) h4 (.slice none 0 0) (by rw [h5];exact Bls.nil _ _);rw [show (qO k c n.toNat).kind=k from rfl,show (qO k c n.toNat).cls=c from rfl,h0,show ((n.toNat:Nat):Int)=n by omega] at d;generalize M.add (qO k c n.toNat)=r at d hR;obtain ⟨r1,r2,r3⟩:=r;rcases y with ⟨rfl,rfl⟩|⟨rfl,g1,g2⟩
  ·clear h hr z hk h4 h5 h0 h3;go_in;go_wp2_with fail;go_fit h1;rintro e _ ⟨rfl,rfl⟩;go_wp2_with fail;go_fit d;rintro e w4 ⟨rfl,hd⟩;have HD:=aA hd;clear hd d;go_wp2;exact hR.o _ _ ⟨rfl,HD.o⟩
  have g3:¬ c<0:=by omega
  have g4:¬ 10<=c:=by omega
  clear h hr z hk h4 h5 h0 h3;go_in;go_wp2_with fail;go_fit h1;rintro e _ ⟨rfl,rfl⟩;go_wp2_with fail;go_fit d;rintro e w4 ⟨rfl,hd⟩;have HD:=aA hd;clear hd d;go_wp2;exact hR.o _ _ ⟨rfl,HD.o⟩
 have hr:M.aG k c n=(0,1,M):=by unfold Hp.aG;rw [if_neg z,if_neg y]
 rw [hr] at hR;have vO:=aA y;clear h hr z hk y;go_in;go_wp2_with fail;go_fit h1;rintro e _ ⟨rfl,rfl⟩
 by_cases e3:k=3
 ·have e4:¬ c=0:=fun e=>vO.o (.inl ⟨e3,e⟩);subst e3;go_wp2;exact hR.o _ _ HD.o
 by_cases e4:k=4
 ·have e5:c<0\/10<=c:=by
   by_cases e6:c<0
   ·exact .inl e6
   by_cases e7:10<=c
   ·exact .inr e7
   exact absurd (.inr ⟨e4,by omega,by omega⟩) vO.o
  subst e4
  by_cases e6:c<0
  ·have e7:¬ 0<=c:=by omega
   clear e5 e6;go_wp2;exact hR.o _ _ HD.o
  have e7:0<=c:=by omega
  have e8:¬ c<10:=by omega
  clear e5 e6;go_wp2;exact hR.o _ _ HD.o
 go_wp2;exact hR.o _ _ HD.o
theorem aDr (w:World) (h:dO w L hb M X):Calls prog 63 #[.pointer (some ⟨hb,0,none⟩)] w fun e w'=>
   ∃ p' b',e=.returned (.pointer (some ⟨p',0,none⟩))/\dQ w' p' b' M.P/\Only [] w w'/\w.heap.size<=p'/\w.heap.size<=b':=by
 refine aF fun R hR=>?_;have h1:=iK w h;have h2:=sW w X.pp X.pb M.P h.pool;have h3:=h.cells.1;clear h;go_in;go_wp2_with fail;go_fit h1;rintro e _ ⟨rfl,rfl⟩;go_wp2_with fail;go_fit h2;rintro e w3 ⟨p',b',rfl,z,y,d,q2⟩;have HP:=aA (⟨z,y,d,q2⟩:dQ w3 p' b' M.P/\Only [] w w3/\w.heap.size<=p'/\w.heap.size<=b');clear z y d q2;go_wp2;exact hR.o _ _ ⟨p',b',rfl,HP.o⟩
end
theorem aN.row {w:World} {base g n cap:Nat} {l:List Int} (h:aN w base (.slice (some ⟨g,0,none⟩) n cap) l):n=l.length/\base<=g/\∃ cs,Row w g 3 cs/\cs.length=cap/\cs.take l.length=l.map (.int .i64)/\l.length<=cap/\cap<=maxLen:=by
 rcases h.2 with ⟨e,_⟩|⟨g',d,y,z,hg,hh,hc,hm,hs,ht⟩
 ·simp at e
 simp only [Value.slice.injEq,Option.some.injEq,Addr.mk.injEq] at z;obtain ⟨⟨rfl,_⟩,hn,rfl⟩:=z;exact ⟨hn,hg,y.toList,by unfold Row;rw [hh],by simp [hs],by rw [<-ht,Nat.mul_one],hc,hm⟩
theorem aN.ofRow {w:World} {base g cap:Nat} {l:List Int} {cs:List Value} (hb:base<=g) (e:Row w g 3 cs) (z:cs.length=cap) (ht:cs.take l.length=l.map (.int .i64)) (y:l.length<=cap) (d:cap<=maxLen):aN w base (.slice (some ⟨g,0,none⟩) l.length cap) l:=by
 refine ⟨by simp,.inr ⟨g,cap,cs.toArray,rfl,hb,e,y,d,by simp [z],by simp;exact ht⟩⟩
theorem aN.setAt {w:World} {base g n cap:Nat} {l:List Int} (h:aN w base (.slice (some ⟨g,0,none⟩) n cap) l) (i:Nat) (y:Int):aN (w.setCell ⟨g,i,none⟩ (.int .i64 y)) base (.slice (some ⟨g,0,none⟩) n cap) (l.set i y):=by
 obtain ⟨rfl,hb,cs,hr,z,d,e,h4⟩:=h.row;have:=aN.ofRow (l:=l.set i y) hb (hr.set i (.int .i64 y)) (cap:=cap) (by simp [z]) (by rw [List.length_set,List.take_set,d,List.map_set]) (by simpa using e) h4;rwa [List.length_set] at this
section
variable {w w':World} {L:Nat->Option Lb} {hb:Nat} {M:Hp} {X:HX}
theorem dO.moved {P:Pl} {ob:Int->Option Th} (h:dO w L hb ⟨P,ob⟩ X) {k:Int} {o:Th} (ho:ob k=some o) {g n cap:Nat} (hv:X.bv k=.slice (some ⟨g,0,none⟩) n cap) (i:Nat) (y:Int) :
  dO (w.setCell ⟨g,i,none⟩ (.int .i64 y)) L hb ⟨P,eU ob k (some (o.moved i y))⟩ X:=by
 have h0:L g=some (.bl k):=(h.th k o ho).Ll g (by rw [hv];rfl);have d:aI (fun j=>L j=some (.bl k)) w (w.setCell ⟨g,i,none⟩ (.int .i64 y)):=(aI.refl _ w).set (.inl h0) _;have z:∀ j ℓ,ℓ≠Lb.bl k->L j=some (.bl k)->L j≠some ℓ:=fun j ℓ h1 hk e=>by rw [hk] at e;cases e;exact h1 rfl
 refine ⟨fun k hk=>Nat.lt_of_lt_of_le (h.lt k hk) d.size,?_,h.Lm,h.pool.dB d (fun y=>z _ .pool (by simp) y h.Lpp) (fun y=>z _ .pages (by simp) y h.Lpb),h.Lpp,h.Lpb,?_,h.Lp,fun j o' hj=>?_⟩
 ·obtain ⟨T,hr⟩:=h.mem;exact ⟨T,d.row hr (fun y=>z _ .mem (by simp) y h.Lm)⟩
 ·refine (h.mp.only d (fun y=>z _ .map (by simp) y h.Lp)).congr (fun j=>?_);show (ob j).map _=(eU ob k (some (o.moved i y)) j).map _;unfold eU
  by_cases e:j=k
  ·rw [if_pos e,e,ho];rfl
  rw [if_neg e]
 rcases aW hj with ⟨rfl,rfl⟩|⟨e,h7⟩
 ·obtain ⟨⟨T,h1⟩,h2,h3,h4,h5,h6⟩:=h.th j o ho;refine ⟨⟨T,d.row h1 (fun x=>z _ (.th j) (by simp) x h2)⟩,h2,h3.dB d (fun g hgv x=>z g (.rb j) (by simp) x (h4 g hgv)),h4,?_,h6⟩;rw [hv] at h5 ⊢;exact h5.setAt i y
 exact (h.th j o' h7).only d (fun x hx=>⟨z x _ (by simp) hx,z x _ (by simp) hx,z x _ (by simp;omega) hx⟩)
theorem aFT (y:M.P.move.2.2.1≠0):M.move=(0,M.P.move.2.2.1,M)/\M.P.move.2.2.2=M.P:=by
 refine ⟨by unfold Hp.move;rw [if_neg y],?_⟩
 cases z:M.P.pair with
 | none=>unfold Pl.move;rw [z]
 | some d=>
  refine absurd ?_ y;unfold Pl.move;rw [z]
theorem yU (e:M.P.move.2.2.1=0) (h:∀ k o,M.ob k=some o->¬ o.place M.P.move.1<o.blocks.length):M.move=(0,0,⟨M.P.move.2.2.2,M.ob⟩):=by
 unfold Hp.move;rw [if_pos e]
 by_cases z:M.owner M.P.move.1<192
 ·have:=(dU (fun k=>M.owns M.P.move.1 ((k:Int)+1)) 192).2 z;obtain ⟨o,y,d⟩:=Hp.wQ.1 this;exact absurd d (h _ o y)
 rw [decide_eq_false z];split
 ·rename_i y;cases y
 rfl
theorem uH (hk:M.Ok) (e:M.P.move.2.2.1=0) {k:Int} {o:Th} (y:M.ob k=some o) (h:o.place M.P.move.1<o.blocks.length):M.move=(k,0,Hp.eX M.P.move.2.2.2 M.ob k o (o.place M.P.move.1) M.P.move.2.1):=by
 obtain ⟨z,d⟩:=hk.aBQ y h;unfold Hp.move;rw [if_pos e,d,y,decide_eq_true z]
theorem aKg (w:World) (h:dO w L hb M X) (hk:M.Ok) :
  Calls prog 309 #[.pointer (some ⟨hb,0,none⟩)] w (wJ w L hb (.tuple #[.int .i64 M.move.1,.int .i64 M.move.2.1]) M.move.2.2):=by
 refine aF fun R hR=>?_;have h1:=iK w h;have c0:=h.cells.1;have a3:=aMu w X.pp X.pb M.P h.pool;obtain ⟨fr,a1⟩:∃ z,z=M.P.move.1:=⟨_,rfl⟩;obtain ⟨tq,a6⟩:∃ z,z=M.P.move.2.1:=⟨_,rfl⟩;obtain ⟨er,z9⟩:∃ z,z=M.P.move.2.2.1:=⟨_,rfl⟩;obtain ⟨Q,hQ⟩:∃ z,z=M.P.move.2.2.2:=⟨_,rfl⟩;rw [<-a1,<-a6,<-z9,<-hQ] at a3;have H:=aA h;have HK:=aA hk;have x6:=aA a1;have z7:=aA a6;have x5:=aA z9;have HQ:=aA hQ;clear h hk a1 a6 z9 hQ;go_in;go_wp2_with fail;go_fit h1;rintro e _ ⟨rfl,rfl⟩;clear h1;go_wp2_with fail;go_fit a3;rintro e w3 ⟨rfl,b6,a4⟩;have x4:=aA (H.o.gK a4 b6 (ob':=M.ob) (fun _=>rfl) (fun k o' h2=>⟨o',h2,Th.Shape.refl _⟩));have y3:Hid (aI (fun k=>L k≠none) w w3):=a4.toP (fun y hy=>.inl (by simp at hy;rw [hy,H.o.Lpb];simp));clear a3 b6 a4 c0
 by_cases he:er=0
 ·subst he;obtain ⟨D0,y1,a9⟩:=x4.o.mp;have z0:wK D0 (fun k=>(M.ob k).map fun _=>X.blk k):=a9;have HD:=aA z0
  have c1:=x4.o.cells.2.1;obtain ⟨mb,b5⟩:∃ m,m=X.mb:=⟨_,rfl⟩;rw [<-b5] at c1 y1;have a8:=aA y1;clear z0 a9 y1 b5;go_wp2_with (at_range;refine wpList_range_own _ rfl _ 173 rfl 3 172 iE Tryz.underlying173 dV mb 192 D0 rfl a8.o ?_;intro w0 z1 b3 d3);go_frame;have Q0:Only [] w3 w0:=(Only.refl [] w3).grown b3 (fun k hk=>by cases hk);clear c1;go_loopw [7] (fun _ wr=>∃ x2 cnt,wr.ranges prog 3 dV mb w3.heap.size 192 D0 x2 cnt/\Hid (∀ k o,wfI k->M.ob k=some o->x2 (.int .i64 k)=false->¬ o.place fr<o.blocks.length)/\Only [] w3 wr) (fun _ wr=>wr.rangeLeft mb w3.heap.size)
  case atStart=>
   refine ⟨_,_,z1,fun k o hk h3 h4=>?_,Q0⟩;rw [(HD.o k hk).1] at h4;simp [h3] at h4
  case round=>
   clear z1 b3 d3 Q0;obtain ⟨x2,cnt,b8,HF,hO⟩:=hrel;have z6:=aA b8;have HO:=aA hO;clear b8 hO;go_wp2_with (at_next;refine iH rfl _ rfl mb w3.heap.size 192 D0 x2 cnt _ HD.o rfl z6.o ?_ ?_)
   ·intro _ b4;have HM:Hid (True->M.move=(0,0,⟨M.P.move.2.2.2,M.ob⟩)):=fun _=>yU x5.o.symm (fun k o ho=>by
     rw [<-x6.o];have:=HK.o.hr k o ho;exact HF.o k o (dI (by omega)) ho (b4 _))
    clear b4;go_wp2;refine hR.o _ _ ?_;rw [HM.o trivial];refine ⟨rfl,L,X,?_,fun k hk=>.inl hk,(y3.o.trans (HO.o.vU (S:=fun _=>False)) (fun x hx=>hx.elim))⟩;show dO _ L hb ⟨M.P.move.2.2.2,M.ob⟩ X;rw [<-HQ.o];exact x4.o.aK HO.o
   intro k c w1 y9 y0 a2 t ht hc x3 y7 y6 a5 d2;have y5:Hid (Only [] w3 w1):=HO.o.grown y6 (fun j hj=>by cases hj;exact .inr (Nat.le_refl _));have h0:=x4.o.aK y5.o;have h6:=h0.th k t ht;obtain ⟨b2,d1,_⟩:=HK.o.aCn ht;obtain ⟨g,cap,eb,x9⟩:=h6.bl.cellsOf b2;have c4:=h6.cells.2.2.2.2;rw [hc,eb] at c4;have h5:=zF w1 (X.bv k) t.blocks h6.bl.read (by omega) fr;rw [eb] at h5;obtain ⟨nb,h8⟩:∃ n,n=t.blocks.length:=⟨_,rfl⟩;rw [<-h8] at c4 h5 x9 b2 d1 eb;have c2:=aA h8;have c6:y9<wr.rangeLeft mb w3.heap.size:=by rw [z6.o.left_eq];exact y7
   have z5:=aA x3;have c5:Hid (wfI k):=y0;have HT:=aA ht;have c7:=aA h0;have b9:=aA eb;have HC:=aA hc;have kM:Hid (¬ t.place fr<t.blocks.length->∀ j o,wfI j->M.ob j=some o->(x2 (.int .i64 j) && !(Lit.int .i64 j).sameKey (.int .i64 k))=false->¬ o.place fr<o.blocks.length):=fun e0 j o hj e1 e2=>by
    by_cases e:j=k
    ·subst e;rw [ht] at e1;cases e1;exact e0
    refine HF.o j o hj e1 ?_;rw [aMe j k y0] at e2;simp [e] at e2;exact e2
   by_cases x1:t.place fr<t.blocks.length
   ·have hi:idx (fun i=>gI t.blocks i == fr) nb=((t.place fr:Nat):Int):=by rw [h8];exact kY x1
    rw [hi] at h5;obtain ⟨d,x8⟩:∃ z,z=t.place fr:=⟨_,rfl⟩;rw [<-x8] at h5;have c8:d<nb:=by rw [x8,h8];exact x1
    have d7:(0:Int)<=d:=by omega
    have e3:(d:Int)<nb:=by omega
    have z3:Hid (True->M.move=(k,0,Hp.eX M.P.move.2.2.2 M.ob k t (t.place M.P.move.1) M.P.move.2.1)):=fun _=>uH HK.o x5.o.symm ht (by rw [<-x6.o];exact x1);have x7:=aA x8;have cp:=x9 d c8;have fg:∀ i,w1.frozen? ⟨g,i,none⟩=false:=fun i=>by
     have:=h6.bl;rw [eb] at this;obtain ⟨_,_,cs,hr,_⟩:=this.row;exact hr.free i
    have c9:=fg d;have nC:Hid (dO (w1.setCell ⟨g,d,none⟩ (.int .i64 tq)) L hb ⟨Q,eU M.ob k (some (t.moved d tq))⟩ X):=h0.moved ht eb d tq;have y2:Hid (L g=some (.bl k)):=h6.Ll g (by rw [eb];rfl);have z2:Hid (L c=some (.th k)):=by have:=h6.Lth;rw [hc] at this;exact this
    have z4:Hid (aI (fun j=>L j≠none) w (w1.setCell ⟨g,d,none⟩ (.int .i64 tq))):=(y3.o.trans (y5.o.vU (S:=fun _=>False)) (fun x hx=>hx.elim)).set (.inl (by show L g≠none;rw [y2.o];simp)) _
    by_cases hz:d=0
    ·subst hz;have y4:Hid (True->Hp.eX M.P.move.2.2.2 M.ob k t (t.place M.P.move.1) M.P.move.2.1=⟨Q,eU M.ob k (some (t.moved 0 tq))⟩):=fun _=>by
      unfold Hp.eX;rw [<-x6.o,<-x7.o,if_pos rfl,<-HQ.o,<-z7.o]
     clear hi x1 x3 a2 y7 y6 a5 hc h0 h6 y0 ht h8 eb x8 x9 fg;go_wp2_with fail;go_fit h5;rintro e _ ⟨rfl,rfl⟩;go_wp2;refine hR.o _ _ ?_;rw [z3.o trivial,y4.o trivial];exact ⟨rfl,L,X,nC.o,fun k hk=>.inl hk,z4.o⟩
    have e7:(0:Int)<d:=by omega
    have h7:(w1.setCell ⟨g,d,none⟩ (.int .i64 tq)).cell? ⟨g,0,none⟩=some (.int .i64 (gI t.blocks 0)):=by
     rw [World.cell?_setCell_other _ _ _ _ (by intro e;have:=congrArg Addr.off e;simp only at this;omega)];exact x9 0 (by omega)
    have b7:=HK.o.xE ht (m:=0) (by omega);obtain ⟨a0,z8⟩:∃ z,z=gI t.blocks 0:=⟨_,rfl⟩;rw [<-z8] at h7 b7;have a7:=aA z8;obtain ⟨d9,d8⟩:=b7;have e4:(d:Int)<=7:=by omega
    have y4:Hid (True->Hp.eX M.P.move.2.2.2 M.ob k t (t.place M.P.move.1) M.P.move.2.1=⟨(Q.setCell (a0+(d:Int)) tq).2,eU M.ob k (some (t.moved d tq))⟩):=fun _=>by
     unfold Hp.eX;rw [<-x6.o,<-x7.o,if_neg hz,<-HQ.o,<-z7.o,<-a7.o]
    clear hi x1 x3 a2 y7 y6 a5 hc h0 h6 y0 ht h8 eb x8 x9 fg z8;go_wp2_with fail;go_fit h5;rintro e _ ⟨rfl,rfl⟩;go_wp2_with fail;have b1:(w1.setCell ⟨g,d,none⟩ (.int .i64 tq)).cell? ⟨c,4,none⟩=some (.slice (some ⟨g,0,none⟩) nb cap):=by
     rw [World.cell?_setCell_other _ _ _ _ (by simp;rintro rfl;have:=z2.o;rw [y2.o] at this;cases this)]
     exact c4
    have e5:0<nb:=by omega
    have e6:(0:Int)<(nb:Int):=by omega
    clear c4 cp h5 c9 d2 z5 z6 HO HF kM;generalize d5:w1.setCell ⟨g,d,none⟩ (.int .i64 tq)=w2 at*;clear d5;have d0:w2.drew.cell? ⟨hb,0,none⟩=some (.pointer (some ⟨X.pp,0,none⟩)):=nC.o.cells.1;have d4:w2.drew.cell? ⟨c,4,none⟩=some (.slice (some ⟨g,0,none⟩) nb cap):=b1;have dg:w2.drew.cell? ⟨g,0,none⟩=some (.int .i64 a0):=h7;have c3:=aA (iT w2.drew X.pp X.pb Q nC.o.drew.pool (a0+(d:Int)) tq);have n0:hb∉[X.pb]:=by simp;rintro rfl;have:=nC.o.Lm;rw [nC.o.Lpb] at this;cases this
    have n4:c∉[X.pb]:=by simp;rintro rfl;have:=z2.o;rw [nC.o.Lpb] at this;cases this
    have ng:g∉[X.pb]:=by simp;rintro rfl;have:=y2.o;rw [nC.o.Lpb] at this;cases this
    have b0:Hid (∀ w5,dQ w5 X.pp X.pb (Q.setCell (a0+(d:Int)) tq).2->Only [X.pb] w2.drew w5->wJ w L hb (.tuple #[.int .i64 M.move.1,.int .i64 M.move.2.1]) M.move.2.2 (.returned (.tuple #[.int .i64 k,.int .i64 0])) w5):=fun w5 y8 h9=>by
     rw [z3.o trivial,y4.o trivial];exact ⟨rfl,L,X,nC.o.drew.gK h9 y8 (fun _=>rfl) (fun k o' h2=>⟨o',h2,Th.Shape.refl _⟩),fun k hk=>.inl hk,
      z4.o.drew.trans (h9.toP (S:=fun j=>L j≠none) (fun y hy=>.inl (by simp at hy;rw [hy,nC.o.Lpb];simp))) (fun x hx=>.inl hx)⟩
    have d6:IntKind.i64.wrap (a0+(d:Int))=a0+(d:Int):=IntWalk.i64_in _ (by omega);clear h7 b1 z3 y4 nC z4 x7 b9 HT HC x6 z7 HQ x5 a7 y2 z2 c5 c7 c2 y5 x4 y3 HD a8 H HK;generalize X.pp=pp at*;generalize X.pb=pb at*;generalize (Q.setCell (a0+(d:Int)) tq)=qs at*;obtain ⟨e8,e9⟩:=qs;go_region_held3 (fun w'=>w'.cell? ⟨hb,0,none⟩=some (.pointer (some ⟨pp,0,none⟩))/\w'.cell? ⟨c,4,none⟩=some (.slice (some ⟨g,0,none⟩) nb cap)/\w'.cell? ⟨g,0,none⟩=some (.int .i64 a0))
     (first|(exact ⟨d0,d4,dg⟩)|(exact ⟨h9.cell d0 n0,h9.cell d4 n4,h9.cell dg ng⟩))
     (first
      | (go_at_call 199;go_fit c3.o;rintro e w5 ⟨rfl,y8,h9⟩))
    have HE:=aA (b0.o w5 y8 h9);clear y8 h9 b0;go_wp2;exact hR.o _ _ HE.o
   have hi:idx (fun i=>gI t.blocks i == fr) nb = -1:=by rw [h8];exact sJ x1
   rw [hi] at h5;have x7:=aA x1;clear hi x1 x3 a2 y7 y6 a5 hc h0 h6 y0 ht h8 eb;go_wp2_with fail;go_fit h5;rintro e _ ⟨rfl,rfl⟩;go_wp2;exact ⟨⟨_,y9,z5.o,kM.o x7.o,y5.o⟩,by rw [z5.o.left_eq];exact c6⟩
 have HM:Hid (True->M.move=(0,M.P.move.2.2.1,M)/\M.P.move.2.2.2=M.P):=fun _=>aFT (by rw [<-x5.o];exact he);go_wp2;refine hR.o _ _ ?_;obtain ⟨e1,e2⟩:=HM.o trivial;rw [e1,<-x5.o];refine ⟨rfl,L,X,?_,fun k hk=>.inl hk,y3.o⟩;have:=x4.o;rw [HQ.o,e2] at this;exact this
end
theorem Bls.aRA {w:World} {base:Nat} {v:Value} {l:List Bool} (h:Bls w base v l):aBt w v l:=by
 rcases h.form with h|⟨g,cap,y,_,_,_,z⟩
 ·exact .inl h
 exact .inr ⟨_,cap,y,fun i d=>by rw [dN,Nat.zero_add];exact z i d⟩
section
variable {w w':World} {L:Nat->Option Lb} {hb:Nat} {M:Hp} {X:HX}
theorem dO.start {p b y T:Nat} {P:Pl} {v:Nat} (hp:dQ w' p b P) (hr:Row w' hb T [.pointer (some ⟨p,0,none⟩),.map (some y)]) (hm:dS w' y 0 (fun _=>none))
  (h1:v<=p) (h2:v<=b) (h3:v<=y) (h4:v<=hb) (d1:p≠y) (d2:p≠hb) (d3:b≠y) (d4:b≠hb) (d5:y≠hb) :
  ∃ e X',dO w' e hb ⟨P,fun _=>none⟩ X'/\(∀ k,e k≠none->v<=k)/\X'.mb=y/\X'.pp=p:=by
 have h5:=hp.ne;obtain ⟨_,_,_,_,f1,f2⟩:=hp.facts;obtain ⟨e,z⟩:∃ e:Nat->Option Lb,e=fun j=>if j=hb then some .mem else if j=y then some .map else if j=p then some .pool else if j=b then some .pages else none:=⟨_,rfl⟩;have h0:∀ k,e k≠none->k=hb\/k=y\/k=p\/k=b:=fun k d=>by
  rw [z] at d;simp only at d
  by_cases e1:k=hb
  ·exact .inl e1
  by_cases e2:k=y
  ·exact .inr (.inl e2)
  by_cases e3:k=p
  ·exact .inr (.inr (.inl e3))
  by_cases e4:k=b
  ·exact .inr (.inr (.inr e4))
  simp [e1,e2,e3,e4] at d
 have h6:=hr.lt;have h7:=hm.lt;refine ⟨e,⟨p,b,y,fun _=>0,fun _=>.slice none 0 0,fun _=>.slice none 0 0⟩,⟨fun k d=>?_,⟨T,hr⟩,by rw [z];simp,hp,by rw [z];simp [d1,d2],by rw [z];simp [d3,d4,Ne.symm h5],(hm.mono (Nat.zero_le _)).congr (fun _=>rfl),by rw [z];simp [d5],fun k o d=>by cases d⟩,fun k d=>?_,rfl,rfl⟩
 ·rcases h0 k d with rfl|rfl|rfl|rfl<;>assumption
 rcases h0 k d with rfl|rfl|rfl|rfl<;>assumption
theorem dO.aRW {P:Pl} {ob:Int->Option Th} (h:dO w L hb ⟨P,ob⟩ X) {k:Int} {b:Nat} {rv bv:Value} {t:Th} (hg:aI (fun j=>L j=some .map) w w') (x1:dS w' X.mb 192 (fun j=>if j=k then some b else (ob j).map fun _=>X.blk j))
  (h7:w.heap.size<=b) (h8:b<w'.heap.size) (hr:∃ T,Row w' b T (aAt t rv bv)) (h5:Bls w' w.heap.size rv t.kP) (h4:aN w' w.heap.size bv t.blocks)
  (d1:∀ g,rv.ownBlock=some g->g≠b) (d2:∀ g,bv.ownBlock=some g->g≠b/\rv.ownBlock≠some g) :
  ∃ L' X',dO w' L' hb ⟨P,eU ob k (some t)⟩ X'/\(∀ j,L' j≠none->L j≠none\/w.heap.size<=j)/\X'.mb=X.mb:=by
 obtain ⟨L',h0⟩:∃ L':Nat->Option Lb,L'=fun j=>if j=b then some (.th k) else if rv.ownBlock=some j then some (.rb k) else if bv.ownBlock=some j then some (.bl k) else L j:=⟨_,rfl⟩;have z:∀ j,L j≠none->L' j=L j:=fun j hj=>by
  rw [h0];have:=h.lt j hj;simp only;rw [if_neg (by omega),if_neg (fun e=>by have:=(h5.own j e).1;omega),if_neg (fun e=>by have:=(h4.own j e).1;omega)]
 have h3:∀ j,L' j≠none->L j≠none\/(w.heap.size<=j/\j<w'.heap.size):=fun j hj=>by
  rw [h0] at hj;simp only at hj
  by_cases e:j=b
  ·rw [e];exact .inr ⟨h7,h8⟩
  rw [if_neg e] at hj
  by_cases e2:rv.ownBlock=some j
  ·exact .inr (h5.own j e2)
  rw [if_neg e2] at hj
  by_cases e3:bv.ownBlock=some j
  ·exact .inr (h4.own j e3)
  rw [if_neg e3] at hj;exact .inl hj
 have d:∀ j ℓ,ℓ≠Lb.map->L j=some .map->L j≠some ℓ:=fun j ℓ h1 hj e=>by rw [hj] at e;cases e;exact h1 rfl
 refine ⟨L',{ X with blk:=fun j=>if j=k then b else X.blk j,rv:=fun j=>if j=k then rv else X.rv j,bv:=fun j=>if j=k then bv else X.bv j },⟨fun j hj=>?_,?_,sD z h.Lm,h.pool.dB hg (fun y=>d _ .pool (by simp) y h.Lpp) (fun y=>d _ .pages (by simp) y h.Lpb),sD z h.Lpp,sD z h.Lpb,?_,sD z h.Lp,fun j u hj=>?_⟩,fun j hj=>(h3 j hj).imp id (fun e=>e.1),rfl⟩
 ·rcases h3 j hj with e|e
  ·exact Nat.lt_of_lt_of_le (h.lt j e) hg.size
  exact e.2
 ·obtain ⟨T,h6⟩:=h.mem;exact ⟨T,hg.row h6 (fun x=>d hb .mem (by simp) x h.Lm)⟩
 ·refine x1.congr (fun j=>?_);show _=(eU ob k (some t) j).map fun _=>if j=k then b else X.blk j
  by_cases e:j=k
  ·rw [e,aZ,if_pos rfl,if_pos rfl];rfl
  rw [bD _ _ e,if_neg e,if_neg e]
 show aEl w' L' j (if j=k then b else X.blk j) (if j=k then rv else X.rv j) (if j=k then bv else X.bv j) u;rcases aW hj with ⟨rfl,rfl⟩|⟨e,h9⟩
 ·rw [if_pos rfl,if_pos rfl,if_pos rfl];refine ⟨hr,by rw [h0];simp,h5.base (Nat.zero_le _),fun g h2=>?_,h4.base (Nat.zero_le _),fun g h2=>?_⟩
  ·rw [h0];simp [d1 g h2,h2]
  obtain ⟨a1,a2⟩:=d2 g h2;rw [h0];simp [a1,a2,h2]
 rw [if_neg e,if_neg e,if_neg e];exact ((h.th j u h9).only hg (fun x hx=>⟨d x _ (by simp) hx,d x _ (by simp) hx,d x _ (by simp) hx⟩)).lab z
end
theorem aML (w:World) (n:Int) (h:n<1\/24<n):Calls prog 81 #[.int .i64 n] w (aO w (.tuple #[.pointer none,.int .i64 1])):=by
 refine aF fun R z=>?_;have y:=aOL w n h;clear h;go_in;go_wp2_with fail;go_fit y;rintro e _ ⟨rfl,rfl⟩;go_wp2;exact z.o _ _ ⟨rfl,rfl⟩
theorem aDt (w:World) (n:Nat) (h1:1<=n) (h0:n<=24):Calls prog 81 #[.int .i64 n] w fun e w'=>
  ∃ hb L X,e=.returned (.tuple #[.pointer (some ⟨hb,0,none⟩),.int .i64 0])/\dO w' L hb (Hp.new n) X/\(∀ k,L k≠none->w.heap.size<=k)/\Only [] w w':=by
 refine aF fun R hR=>?_;have h2:=aOK w n h1 h0;have h7:=@run_makeMap prog;clear h1 h0;go_in;go_wp2_with fail;go_fit h2;rintro e y ⟨p,b,rfl,hp,ho,h4,h3⟩;obtain ⟨_,_,_,_,f1,f2⟩:=hp.facts;have h5:dQ ((y.alloc (.map #[] 0)).alloc (.cells #[.pointer (some ⟨p,0,none⟩),.map (some y.heap.size)] 175)) p b (Pl.zero n):=hp.only (((Only.refl [] y).alloc _).alloc _) (by simp) (by simp);have d:Row ((y.alloc (.map #[] 0)).alloc (.cells #[.pointer (some ⟨p,0,none⟩),.map (some y.heap.size)] 175)) (y.heap.size+1) 175 [.pointer (some ⟨p,0,none⟩),.map (some y.heap.size)]:=by
  have:=Row.new (y.alloc (.map #[] 0)) 175 [.pointer (some ⟨p,0,none⟩),.map (some y.heap.size)];rwa [World.size_alloc] at this
 have z:dS ((y.alloc (.map #[] 0)).alloc (.cells #[.pointer (some ⟨p,0,none⟩),.map (some y.heap.size)] 175)) y.heap.size 0 (fun _=>none):=(dS.made y).only ((aI.refl (fun _=>False) _).alloc _) (fun x=>x);have hO:Only [] w ((y.alloc (.map #[] 0)).alloc (.cells #[.pointer (some ⟨p,0,none⟩),.map (some y.heap.size)] 175)):=(ho.alloc _).alloc _;have h6:=ho.size;obtain ⟨L1,X1,q1,q2,_⟩:=dO.start (v:=w.heap.size) h5 d z h4 h3 (by omega) (by omega) (by omega) (by omega) (by omega) (by omega) (by omega);have Q1:=aA q1;have Q2:=aA q2;have QO:=aA hO;clear h2 hp h5 d z hO q1 q2 h4 h3 f1 f2 h6 ho;go_wp2;exact hR.o _ _ ⟨_,L1,X1,rfl,Q1.o,Q2.o,QO.o⟩
def tJ (ob:Int->Option Th) (y:Lit->Bool) (k:Int):Option Th:=if y (.int .i64 k) then none else ob k
theorem aJC (w:World):Only [] w w.drew:=(Only.refl [] w).drew
theorem Only.aS {w0 wl:World} (h:Only [] w0 wl) {a:Addr} {v:Value} (y:w0.cell? a=some v):wl.cell? a=some v:=h.cell y (by simp)
theorem pK (w:World) (v:Value) (l:List Int) (h:aN w 0 v l) (hl:l.length<=1000000) :
  Calls prog 80 #[v] w fun e w'=>∃ y,e=.returned y/\aN w' w.heap.size y l/\Only [] w w':=by
 rcases h.form with ⟨rfl,rfl⟩|⟨g,cap,rfl,_,hg,_,z⟩
 ·refine (aIE w).mono ?_;rintro e _ ⟨rfl,rfl⟩;exact ⟨_,rfl,aN.nil _ _,Only.refl _ _⟩
 refine (aBl w g l.length cap l rfl (by omega) z).mono ?_;rintro e w1 ⟨y,rfl,hv,d,_⟩;exact ⟨y,rfl,hv,d⟩
section
variable {L:Nat->Option Lb} {hb:Nat} {M:Hp} {X:HX}
theorem aDv (w:World) (h:dO w L hb M X) (hk:M.Ok):Calls prog 128 #[.pointer (some ⟨hb,0,none⟩)] w fun e w'=>
  ∃ q L' X',e=.returned (.pointer (some ⟨q,0,none⟩))/\dO w' L' q M X'/\(∀ k,L' k≠none->w.heap.size<=k)/\Only [] w w':=by
 refine aF fun R hR=>?_;have h1:=iK w h;have c0:=h.cells.1;have e2:=sW w X.pp X.pb M.P h.pool;have j4:=@run_makeMap prog;have H:=aA h;have HK:=aA hk;clear h hk;go_in;go_wp2_with fail;go_fit h1;rintro e _ ⟨rfl,rfl⟩;clear h1;go_wp2_with fail;go_fit e2;rintro e w3 ⟨p,b,rfl,hp,ho,f0,e1⟩;obtain ⟨_,_,_,_,f1,f2⟩:=hp.facts;have f3:dQ ((w3.alloc (.map #[] 0)).alloc (.cells #[.pointer (some ⟨p,0,none⟩),.map (some w3.heap.size)] 175)) p b M.P:=hp.only (((Only.refl [] w3).alloc _).alloc _) (by simp) (by simp);have d:Row ((w3.alloc (.map #[] 0)).alloc (.cells #[.pointer (some ⟨p,0,none⟩),.map (some w3.heap.size)] 175)) (w3.heap.size+1) 175 [.pointer (some ⟨p,0,none⟩),.map (some w3.heap.size)]:=by
  have:=Row.new (w3.alloc (.map #[] 0)) 175 [.pointer (some ⟨p,0,none⟩),.map (some w3.heap.size)];rwa [World.size_alloc] at this
 have z4:dS ((w3.alloc (.map #[] 0)).alloc (.cells #[.pointer (some ⟨p,0,none⟩),.map (some w3.heap.size)] 175)) w3.heap.size 0 (fun _=>none):=(dS.made w3).only ((aI.refl (fun _=>False) _).alloc _) (fun x=>x);have hO:Only [] w ((w3.alloc (.map #[] 0)).alloc (.cells #[.pointer (some ⟨p,0,none⟩),.map (some w3.heap.size)] 175)):=(ho.alloc _).alloc _;have j7:=ho.size;obtain ⟨L1,X1,q1,q2,q3⟩:=dO.start (v:=w.heap.size) f3 d z4 f0 e1 (by omega) (by omega) (by omega) (by omega) (by omega) (by omega) (by omega);have z5:=aA q1;have x3:=aA q2;have HO:=aA hO;obtain ⟨D0,y7,d3⟩:=(H.o.aK HO.o).mp;have z3:wK D0 (fun k=>(M.ob k).map fun _=>X.blk k):=d3;have HD:=aA z3
 have c7:=aA H.o.mp;have d1:Hid (X.mb<w.heap.size):=H.o.mp.lt;have m6:=(H.o.aK HO.o).cells.2.1;obtain ⟨mb,e7⟩:∃ m,m=X.mb:=⟨_,rfl⟩;rw [<-e7] at m6 y7 d1 c7;have d2:=aA y7;clear e2 hp f3 d z4 hO q1 q2 q3 f0 e1 f1 f2 j7 ho c0 z3 d3 y7 e7;go_wp2_with (at_range;generalize ((w3.alloc (.map #[] 0)).alloc (.cells #[.pointer (some ⟨p,0,none⟩),.map (some w3.heap.size)] 175))=wq at*;generalize w3.heap.size+1=q at*;refine wpList_range_own _ rfl _ 173 rfl 3 172 iE Tryz.underlying173 dV mb 192 D0 rfl d2.o ?_;intro w4 y8 a8 j5);go_frame;obtain ⟨ri,b9⟩:∃ r,r=wq.heap.size:=⟨_,rfl⟩;rw [<-b9] at y8 ⊢;have i0:Hid (w.heap.size<=ri):=by show _<=_;rw [b9];exact HO.o.size
 have x5:Hid (L1 ri=none):=by
  show _=_
  cases e:L1 ri with
  | none=>rfl
  | some ℓ=>have:=z5.o.lt ri (by rw [e];simp);omega
 have c9:Hid (dO w4 L1 q ⟨M.P,fun _=>none⟩ X1):=z5.o.only (S:=fun _=>False) ((aI.refl _ wq).grown a8 (fun k hk=>by cases hk)) (fun _ x=>x.elim);have c8:Hid (Only [] w w4):=HO.o.grown a8 (fun k hk=>by cases hk);clear b9 a8 j5 m6 j4;go_loopw [6] (fun _ wr=>∃ h0 cnt L1 X1,wr.ranges prog 3 dV mb ri 192 D0 h0 cnt/\dO wr L1 q ⟨M.P,tJ M.ob h0⟩ X1/\Hid (∀ j,L1 j≠none->w.heap.size<=j)/\Hid (L1 ri=none)/\Only [] w wr) (fun _ wr=>wr.rangeLeft mb ri)
 case atStart=>
  refine ⟨_,_,L1,X1,y8,?_,x3,x5,c8.o⟩;have e:tJ M.ob (Maps.has D0)=fun _=>none:=by
   funext k;unfold tJ
   cases ho:M.ob k with
   | none=>simp
   | some t=>
    have h1:=HK.o.hr k t ho;have:=(HD.o k (dI (k:=k) (by omega))).1;simp only [ho] at this;rw [if_pos (by rw [this];rfl)]
  rw [e];exact c9.o
 case round=>
  clear y8 c9 c8 x5 x3 z5 HO L1 X1 d2;obtain ⟨h0,cnt,L1,X1,f4,hP,x3,x5,hO⟩:=hrel;have d0:=aA f4;have HP:=aA hP;have HO:=aA hO;clear f4 hP hO;go_wp2_with (at_next;refine iH rfl _ rfl mb ri 192 D0 h0 cnt _ HD.o rfl d0.o ?_ ?_)
  ·intro _ e5;have g4:=aA e5;clear e5;go_wp2;refine hR.o _ _ ⟨q,L1,X1,rfl,?_,x3.o,HO.o⟩;have e:(⟨M.P,tJ M.ob h0⟩:Hp)=M:=by
    have:tJ M.ob h0=M.ob:=by
     funext k;unfold tJ;rw [if_neg (by rw [g4.o];simp)]
    rw [this]
   rw [<-e];exact HP.o
  intro k c w5 a2 f7 j3 t ht hc a5 e6 a9 j6 j2;have O5:aI (·=ri) wr w5:=(aI.refl _ wr).grown a9 (fun j hj=>by cases hj;exact .inl rfl);have z9:Only [] w w5:=HO.o.grown a9 (fun j hj=>by cases hj;exact .inr i0.o);have P5:dO w5 L1 q ⟨M.P,tJ M.ob h0⟩ X1:=HP.o.only O5 (fun x hx=>by rw [hx];exact x5.o);obtain ⟨⟨T,d⟩,_,b8,_,a6,_⟩:=(H.o.aK z9).th k t ht;have d:Row w5 c T (aAt t (X.rv k) (X.bv k)):=by rw [<-hc];exact d
  have c0:w5.cell? ⟨c,0,none⟩=_:=d.cell 0 rfl;have c1:w5.cell? ⟨c,1,none⟩=_:=d.cell 1 rfl;have c2:w5.cell? ⟨c,2,none⟩=_:=d.cell 2 rfl;have c3:w5.cell? ⟨c,3,none⟩=_:=d.cell 3 rfl;have c4:w5.cell? ⟨c,4,none⟩=_:=d.cell 4 rfl;obtain ⟨a3,b3,z1⟩:=b8.len;obtain ⟨a4,b4,z2⟩:=a6.len;obtain ⟨n3,b6⟩:∃ z,z=t.kP.length:=⟨_,rfl⟩;obtain ⟨n4,b7⟩:∃ z,z=t.blocks.length:=⟨_,rfl⟩;obtain ⟨kd,b2⟩:∃ z,z=t.kind:=⟨_,rfl⟩;obtain ⟨cl,a7⟩:∃ z,z=t.cls:=⟨_,rfl⟩;obtain ⟨ln,b5⟩:∃ z,z=t.slots.length:=⟨_,rfl⟩;rw [<-b6] at z1;rw [<-b7] at z2;rw [z1] at c3;rw [z2] at c4;rw [<-b2] at c0;rw [<-a7] at c1;rw [<-b5] at c2;have i5:a2<wr.rangeLeft mb ri:=by rw [d0.o.left_eq];exact e6
  have x8:=aA P5;have x2:=aA z9;have z6:Hid (wfI k):=f7;have HT:=aA ht;have j1:=aA a5;have j0:Hid (ri<w5.heap.size):=a5.lt;have HC:=aA hc;have g9:=aA b8;have f9:=aA a6;have i1:=aA z1;have i2:=aA z2;have j9:=aA b6;have k1:=aA b7;have g3:=aA b2;have g2:=aA a7;have g5:=aA b5;clear O5 z9 P5 d b8 a6 f7 ht hc a5 j3 e6 a9 j6 z1 z2 b6 b7 b2 a7 b5;go_wp2_with fail;have a0:Row (w5.alloc (.cells #[.int .i64 kd,.int .i64 cl,.int .i64 ln,.slice a3 n3 b3,.slice a4 n4 b4] 184)) w5.heap.size 184 [.int .i64 kd,.int .i64 cl,.int .i64 ln,.slice a3 n3 b3,.slice a4 n4 b4]:=Row.new w5 _ [_,_,_,_,_];have y0:Hid (Only [] w5 (w5.alloc (.cells #[.int .i64 kd,.int .i64 cl,.int .i64 ln,.slice a3 n3 b3,.slice a4 n4 b4] 184))):=(Only.refl [] w5).alloc _;have z0:(w5.alloc (.cells #[.int .i64 kd,.int .i64 cl,.int .i64 ln,.slice a3 n3 b3,.slice a4 n4 b4] 184)).heap.size=w5.heap.size+1:=by simp
  have d9:c<w5.heap.size:=World.block_lt_of_cell? w5 _ c3;generalize (w5.alloc (.cells #[.int .i64 kd,.int .i64 cl,.int .i64 ln,.slice a3 n3 b3,.slice a4 n4 b4] 184))=w6 at*;obtain ⟨y,hy⟩:∃ z,z=w5.heap.size:=⟨_,rfl⟩;rw [<-hy] at a0 z0 d9 ⊢;have HY:=aA hy;have i9:=aA z0;have d4:=aA a0;have e3:w6.drew.cell? ⟨c,3,none⟩=some (.slice a3 n3 b3):=y0.o.aS c3;have e4:w6.drew.cell? ⟨c,4,none⟩=some (.slice a4 n4 b4):=y0.o.aS c4;have x6:y≠c:=by omega
  have g0:Hid (∀ wx,Only [] w6 wx->Calls prog 165 #[.slice a3 n3 b3] wx (fun e w'=>∃ v',e=.returned v'/\Bls w' wx.heap.size v' t.kP/\Only [] wx w')):=fun wx hox=>by
   have h3:=g9.o;rw [i1.o] at h3;have:=(HK.o.th k t HT.o);exact aBm wx _ _ (h3.aRA.only (y0.o.trans hox (by simp))) (by have h4:=this.le;have h5:=this.rl;unfold Th.kP;split<;>simp;omega)
  have g1:Hid (∀ wx,Only [] w6 wx->Calls prog 80 #[.slice a4 n4 b4] wx (fun e w'=>∃ v',e=.returned v'/\aN w' wx.heap.size v' t.blocks/\Only [] wx w')):=fun wx hox=>by
   have h3:=f9.o;rw [i2.o] at h3;exact pK wx _ _ (h3.only (y0.o.trans hox (by simp)) (by simp)) (by have:=(HK.o.aCn HT.o).2.1;omega)
  have i3:Hid (∀ wx,Only [] w6 wx->wx.cell? ⟨y,3,none⟩=some (.slice a3 n3 b3)/\wx.cell? ⟨y,4,none⟩=some (.slice a4 n4 b4)/\wx.frozen? ⟨y,3,none⟩=false/\wx.frozen? ⟨y,4,none⟩=false):=fun wx hox=>by
   have:=hox.row d4.o (by simp);exact ⟨this.cell 3 rfl,this.cell 4 rfl,this.free 3,this.free 4⟩
  have y9:Hid (Only [] w6 w6.drew):=(Only.refl [] w6).drew;clear hy z0 a0 c0 c1 c2 c3 c4 d9 j2;go_region_held3 (fun w'=>w'.cell? ⟨c,3,none⟩=some (.slice a3 n3 b3)/\w'.cell? ⟨c,4,none⟩=some (.slice a4 n4 b4))
   (first
    | (exact ⟨e3,e4⟩)
    | (exact ⟨h2.aS e3,h2.aS e4⟩)
    | (exact ⟨k3,k4⟩)
    | (exact ⟨(World.cell?_setCell_far _ _ _ _ x6).trans k3,(World.cell?_setCell_far _ _ _ _ x6).trans k4⟩)
    | (exact ⟨(World.cell?_setCell_far _ _ _ _ x6).trans ((World.cell?_setCell_far _ _ _ _ x6).trans k3),(World.cell?_setCell_far _ _ _ _ x6).trans ((World.cell?_setCell_far _ _ _ _ x6).trans k4)⟩))
   (first
    | (go_at_call 165;refine (g0.o _ y9.o).mono ?_;rintro e w7 ⟨v7,rfl,b0,h2⟩;obtain ⟨h7,h9,f5⟩:=b0.len;obtain ⟨n7,e8⟩:∃ z,z=t.kP.length:=⟨_,rfl⟩;rw [<-e8] at f5;subst f5;have c5:=aA b0;clear b0 e8)
    | (go_at_call 80;refine (g1.o _ (y9.o.trans h2 (by simp))).mono ?_;rintro e w8 ⟨v8,rfl,b1,x4⟩;obtain ⟨h8,x1,f6⟩:=b1.len;obtain ⟨n8,e9⟩:∃ z,z=t.blocks.length:=⟨_,rfl⟩;rw [<-e9] at f6;subst f6;have c6:=aA b1;have k3:=x4.aS (h2.aS e3);have k4:=x4.aS (h2.aS e4);obtain ⟨y3,y4,y5,y6⟩:=i3.o w8 ((y9.o.trans h2 (by simp)).trans x4 (by simp));clear b1 e9))
  have z8:Only [] w6 w8:=(y9.o.trans h2 (by simp)).trans x4 (by simp);have z0:=i9.o;have k5:w6.heap.size<=w7.heap.size:=h2.size;have k6:w7.heap.size<=w8.heap.size:=x4.size;have y2:=c5.o.own;have y1:=c6.o.own;have j8:=HY.o;have e0:=z8.row d4.o (by simp);have a1:Row ((w8.setCell ⟨y,3,none⟩ (.slice h7 n7 h9)).setCell ⟨y,4,none⟩ (.slice h8 n8 x1)) y 184 [.int .i64 kd,.int .i64 cl,.int .i64 ln,.slice h7 n7 h9,.slice h8 n8 x1]:=(e0.set 3 _).set 4 _;have x9:Only [y] w8 ((w8.setCell ⟨y,3,none⟩ (.slice h7 n7 h9)).setCell ⟨y,4,none⟩ (.slice h8 n8 x1)):=((Only.refl [y] w8).set (.inl (by simp)) _).set (.inl (by simp)) _;have i7:Bls ((w8.setCell ⟨y,3,none⟩ (.slice h7 n7 h9)).setCell ⟨y,4,none⟩ (.slice h8 n8 x1)) w6.heap.size (.slice h7 n7 h9) t.kP:=(c5.o.only x4 (by simp)).only x9 (fun g hg=>by have:w6.heap.size<=g:=(y2 g hg).1;simp;omega);have i8:aN ((w8.setCell ⟨y,3,none⟩ (.slice h7 n7 h9)).setCell ⟨y,4,none⟩ (.slice h8 n8 x1)) w7.heap.size (.slice h8 n8 x1) t.blocks:=c6.o.only x9 (fun g hg=>by have:=(y1 g hg).1;simp;omega);generalize ((w8.setCell ⟨y,3,none⟩ (.slice h7 n7 h9)).setCell ⟨y,4,none⟩ (.slice h8 n8 x1))=w9 at*;have z7:Only [] w5 w9:=(y0.o.trans z8 (by simp)).trans x9 (fun x hx=>.inr (by simp at hx;omega));have P9:=x8.o.aK z7;have q1:=P9.cells.2.1;obtain ⟨x7,f8,d7,d8⟩:=dS.store (b:=y) P9.mp (by omega) z6.o;have O9:aI (·=X1.mb) w9 x7:=(aI.refl _ w9).grown d8 (fun j hj=>by cases hj;exact .inl rfl);have h6:aI (fun j=>L1 j=some .map) w5 x7:=(z7.vU (S:=fun j=>L1 j=some .map)).trans O9 (fun x hx=>.inl (by rw [hx];exact x8.o.Lp));have k2:X1.mb<w5.heap.size:=x8.o.lt _ (by rw [x8.o.Lp];simp);have d6:dS x7 X1.mb 192 (fun j=>if j=k then some y else (tJ M.ob h0 j).map fun _=>X1.blk j):=dS.tight d7 c7.o (fun j hj hs=>by
   by_cases e:j=k
   ·rw [e,HT.o];rfl
   simp only [e,if_false] at hs;unfold tJ at hs;split at hs
   ·simp at hs
   cases ho:M.ob j with
   | none=>rw [ho] at hs;cases hs
   | some u=>rfl)
  have k7:=x9.size;obtain ⟨L2,X2,r1,r2,r3⟩:=x8.o.aRW (w':=x7) (k:=k) (b:=y) (rv:=.slice h7 n7 h9) (bv:=.slice h8 n8 x1) (t:=t) h6 d6 (by omega) (by have:=O9.size;have:=a1.lt;omega)
   ⟨184,by
    have:=O9.row a1 (by intro e;omega);unfold aAt;rw [<-g3.o,<-g2.o,<-g5.o];exact this⟩ ((i7.dB O9 (fun g hg e=>by have:w6.heap.size<=g:=(y2 g hg).1;omega)).base (by omega)) ((i8.dB O9 (fun g hg e=>by have:=(y1 g hg).1;omega)).base (by omega))
   (fun g hg=>by have:w6.heap.size<=g:=(y2 g hg).1;omega) (fun g hg=>⟨by have:=(y1 g hg).1;omega,fun e=>by have:=(y2 g e).2;have:=(y1 g hg).1;omega⟩)
  have g6:=aA r1;have g7:Hid (∀ j,L2 j≠none->w.heap.size<=j):=fun j hj=>by
   rcases r2 j hj with h1|h1
   ·exact x3.o j h1
   have:=x2.o.size;omega
  have g8:Hid (L2 ri=none):=by
   show _=_
   cases e:L2 ri with
   | none=>rfl
   | some ℓ=>
    rcases r2 ri (by rw [e];simp) with h1|h1
    ·exact absurd x5.o h1
    have:=j0.o;omega
  have d5:Hid (x7.ranges prog 3 dV mb ri 192 D0 (fun z=>h0 z && !z.sameKey (.int .i64 k)) a2):=yH j1.o h6 (fun x=>by have:=x3.o mb (by rw [x];simp);have:=d1.o;omega) (fun x=>by have:=x5.o;rw [x] at this;cases this)
  have i4:Hid (Only [] w x7):=by
   refine ⟨h6.os.trans x2.o.os,h6.tape.trans x2.o.tape,h6.output.trans x2.o.output,Nat.le_trans x2.o.size h6.size,fun j hj _=>?_⟩;rw [h6.block j (Nat.lt_of_lt_of_le hj x2.o.size) (fun x=>by
    have h1:=x3.o j (by rw [x];simp);omega)]
   exact x2.o.block j hj (by simp)
  generalize i6:X1.mb=k8 at*;clear r1 r2 r3 i7 i8 e0 a1 d7 d6 d8 O9 h6 z7 x9 z8 P9 h2 x4 y2 y1 k3 k4 y3 y4 y5 y6 e3 e4 i6 j8;go_wp2;refine ⟨⟨_,a2,L2,X2,d5.o,?_,g7,g8,i4.o⟩,by rw [d5.o.left_eq];exact i5⟩;have e:tJ M.ob (fun z=>h0 z && !z.sameKey (.int .i64 k))=eU (tJ M.ob h0) k (some t):=by
   funext j;unfold eU
   by_cases e:j=k
   ·subst e;rw [if_pos rfl];unfold tJ;simp only [aMe j j z6.o,decide_true,Bool.not_true,Bool.and_false,Bool.false_eq_true,if_false];exact HT.o
   rw [if_neg e];unfold tJ;simp only [aMe j k z6.o];simp [e]
  rw [e];exact g6.o
end
end Go.Proofs.YthflghdaejbdkaaGreat
namespace Go.Proofs.YthflghdaejbdkaaGreat
open _root_.Go.Proofs.Tryz (prog)
set_option linter.unusedVariables false
set_option maxRecDepth 100000
def Pl.has (P:Pl) (c:Int):Bool:=decide (0<iQ (fun i=>if (P.pg i).cls=c then 8 else 0) P.n)
def Pl.aPG (P:Pl) (c:Int):Nat:=iQ (fun i=>if (P.pg i).cls=c then 8 else 0) P.n
theorem aIR {f:Nat->Nat} {i k:Nat} (z:i<k):f i<=iQ f k:=by
 induction k with
 | zero=>omega
 | succ k y=>
  unfold iQ
  by_cases e:i=k
  ·rw [e];omega
  have:=y (by omega);omega
theorem Pl.oG {P:Pl} {c:Int}:P.has c=true↔∃ i,i<P.n/\(P.pg i).cls=c:=by
 unfold Pl.has;rw [decide_eq_true_eq];constructor
 ·intro h;apply Classical.byContradiction;intro z;have:iQ (fun i=>if (P.pg i).cls=c then 8 else 0) P.n=0:=nJ.2 (fun i y=>by
   rw [if_neg (fun e=>z ⟨i,y,e⟩)])
  omega
 rintro ⟨i,y,e⟩;have:=aIR (f:=fun i=>if (P.pg i).cls=c then 8 else 0) y;simp only [e,if_true] at this;omega
theorem Pl.aOl {P:Pl} {c:Int} (h:P.has c=true):8<=P.aPG c:=by
 obtain ⟨i,y,e⟩:=Pl.oG.1 h;have:=aIR (f:=fun i=>if (P.pg i).cls=c then 8 else 0) y;simp only [e,if_true] at this;exact this
theorem Pl.aDp {P:Pl} (h:P.ok):iQ P.kD P.n=P.aPG 0+P.aPG 1+P.aPG 2:=by
 unfold Pl.aPG;rw [<-wM,<-wM];refine lF (fun i y=>?_);unfold Pl.kD;rcases (h i y).cls with e|e|e|e<;>simp [e]
theorem Pl.aJW {P:Pl} {c:Int} (e:IsC c) (h:P.has c=false):P.least c P.n=0:=by
 unfold Pl.least
 cases d:P.frm c P.n with
 | none=>rfl
 | some f=>
  have y:=Pl.kV d;have z:P.has c=true:=Pl.oG.2 ⟨f,y.1,(Pg.bF.1 y.2.1).1⟩;rw [h] at z;cases z
theorem aEP {P Q:Pl} (z:P.ok) (d:Q.ok) (hn:Q.n=P.n) {k:Nat} (hk:k+Q.pot<=P.pot) (hh:∀ c,IsC c->P.has c=true->Q.has c=true):k<=8*P.n:=by
 have h1:=Pl.aDp z;have h2:=Pl.aDp d;have h3:iQ P.kD P.n<=8*P.n:=aIQ (fun i _=>by unfold Pl.kD;split<;>omega)
 unfold Pl.pot at hk;have y:∀ c,IsC c->P.least c P.n<=Q.aPG c:=fun c hc=>by
  cases e:P.has c with
  | false=>rw [Pl.aJW hc e];omega
  | true=>have:=Pl.aOl (hh c hc e);have:=Pl.least_le (P:=P) hc;omega
 have k0:=y 0 (.inl rfl);have k1:=y 1 (.inr (.inl rfl));have k2:=y 2 (.inr (.inr rfl));omega
theorem Pl.zH {P:Pl} {i j:Nat} (y:P.Pair i j) {c:Int} (h:P.has c=true):(P.moved i j).has c=true:=by
 obtain ⟨x,hx,e⟩:=Pl.oG.1 h;have ej:((P.moved i j).pg j).cls=(P.pg i).cls:=by
  unfold Pl.moved;simp only [Pl.aQ _ _ y.ne.symm,Pl.aP];rfl
 by_cases z:x=i
 ·exact Pl.oG.2 ⟨j,y.hj,by rw [ej,<-z];exact e⟩
 by_cases d:x=j
 ·exact Pl.oG.2 ⟨j,y.hj,by rw [ej,<-y.same,<-d];exact e⟩
 refine Pl.oG.2 ⟨x,hx,?_⟩;rw [<-e];unfold Pl.moved;simp only [Pl.aQ _ _ z,Pl.aQ _ _ d]
theorem oQ {P:Pl} {a n:Int} (x:Nat):(((P.setCell a n).2).pg x).cls=(P.pg x).cls/\(((P.setCell a n).2).pg x).used=(P.pg x).used:=by
 unfold Pl.setCell;split
 ·by_cases e:x=a.toNat / 16
  ·rw [e];simp only [Pl.aP];exact ⟨trivial,trivial⟩
  simp only [Pl.aQ _ _ e];exact ⟨trivial,trivial⟩
 exact ⟨rfl,rfl⟩
theorem aEF {P:Pl} (z:P.ok) {a n:Int}:(P.setCell a n).2.pot=P.pot:=by
 have e:=(z.setCell a n).2;have y:∀ c x,(((P.setCell a n).2).pg x).partly c=(P.pg x).partly c/\((P.pg x).partly c=true->(((P.setCell a n).2).pg x).count=(P.pg x).count):=fun c x=>by
  have d:=oQ (P:=P) (a:=a) (n:=n) x;unfold Pg.partly Pg.count;rw [d.1,d.2];exact ⟨rfl,fun _=>rfl⟩
 unfold Pl.pot;rw [e,(Pl.mG (fun i _=>y 0 i)).2,(Pl.mG (fun i _=>y 1 i)).2,(Pl.mG (fun i _=>y 2 i)).2];have:iQ ((P.setCell a n).2.kD) P.n=iQ P.kD P.n:=lF (fun i _=>by unfold Pl.kD;rw [(oQ i).1]);rw [this]
theorem aEX {P:Pl} (y:P.ok) {a n:Int} {c:Int} (h:P.has c=true):(P.setCell a n).2.has c=true:=by
 obtain ⟨x,hx,e⟩:=Pl.oG.1 h;exact Pl.oG.2 ⟨x,by rw [(y.setCell a n).2];exact hx,by rw [(oQ x).1];exact e⟩
theorem Hp.Ok.aFS {M:Hp} (hk:M.Ok) (he:M.move.2.1=0):M.move.2.2.P.pot+1<=M.P.pot/\∀ c,IsC c->M.P.has c=true->M.move.2.2.P.has c=true:=by
 unfold Hp.move at he ⊢;split
 ·rename_i e
  cases hp:M.P.pair with
  | none=>rw [Pl.dF hp] at e;cases e
  | some x=>
   obtain ⟨i,j⟩:=x;have d:=Pl.rJ hk.p hp;have y:=Pl.eH hp;have e4:M.P.move.2.2.2=M.P.moved i j:=by rw [Pl.dK hp]
   have z:=(hk.p.moved y).1;split
   ·unfold Hp.eX;simp only;rw [e4];split
    ·exact ⟨d,fun c hc h=>Pl.zH y h⟩
    exact ⟨by rw [aEF z];exact d,fun c hc h=>aEX z (Pl.zH y h)⟩
   simp only;rw [e4];exact ⟨d,fun c hc h=>Pl.zH y h⟩
 rename_i e;rw [if_neg e] at he;exact absurd he e
theorem Hp.aDk {M:Hp} {k:Nat} {x:Int}:x∈M.aX k↔∃ j:Nat,j<k/\x=(j:Int)+1/\(M.ob x).isSome=true:=by
 induction k with
 | zero=>simp [Hp.aX]
 | succ k ih=>
  unfold Hp.aX;rw [List.mem_append,ih];constructor
  ·rintro (⟨j,d,y,z⟩|h)
   ·exact ⟨j,by omega,y,z⟩
   split at h
   ·rename_i hs;simp at h;subst h;exact ⟨k,by omega,rfl,hs⟩
   simp at h
  rintro ⟨j,d,y,z⟩
  by_cases e:j=k
  ·right;subst e;subst y;rw [if_pos z];simp
  exact .inl ⟨j,by omega,y,z⟩
theorem Hp.zJ {M:Hp} {i:Nat} (y:i<M.handles.length):(M.ob (gI M.handles i)).isSome=true:=by
 have:gI M.handles i∈M.handles:=dX.2 ⟨i,y,rfl⟩;obtain ⟨_,_,_,h⟩:=Hp.aDk.1 this;exact h
end Go.Proofs.YthflghdaejbdkaaGreat
namespace Go.Proofs.YthflghdaejbdkaaGreat
open _root_.Go.Proofs.Tryz (prog)
set_option linter.unusedVariables false
theorem aLQ {f g:Nat->Nat} {i j n:Nat} (hi:i<n) (hj:j<n) (y:i≠j) (ho:∀ x,x<n->x≠i->x≠j->g x=f x) (h:g i+g j=f i+f j):iQ g n=iQ f n:=by
 have z:=qB (f:=f) (g:=fun x=>if x=i then g i else f x) hi (fun x _ hx=>by simp [hx]);have d:=qB (f:=fun x=>if x=i then g i else f x) (g:=g) hj (fun x hx hxj=>by
  by_cases e:x=i
  ·simp [e]
  simp only [e,if_false];exact ho x hx e hxj)
 simp only [if_true,y.symm,if_false] at z d;omega
theorem Pl.aER {P:Pl} (h:P.ok) {i j:Nat} (d:P.Pair i j) :
  (((P.moved i j).pg i).cls=(P.pg i).cls/\((P.moved i j).pg i).count+1=(P.pg i).count\/((P.moved i j).pg i).cls = -1/\(P.pg i).count=1)/\((P.moved i j).pg j).cls=(P.pg i).cls/\((P.moved i j).pg j).count=(P.pg j).count+1:=by
 obtain ⟨y,h2,h3⟩:=Pl.qG h d;refine ⟨?_,?_,h2⟩
 ·have e:(P.moved i j).pg i=(P.pg i).release ((P.pg i).top (P.pg i).cls):=by unfold Pl.moved;rw [Pl.aP]
  rw [e] at y ⊢;unfold Pg.release Pg.count at y;unfold Pg.release;simp only at y ⊢
  by_cases z:cnt (up (P.pg i).used ((P.pg i).top (P.pg i).cls) false) 8=0
  ·right;simp only [z,if_true];rw [z] at y;exact ⟨trivial,y.symm⟩
  left;simp only [z,if_false];exact ⟨trivial,y⟩
 unfold Pl.moved;rw [Pl.aQ _ _ d.ne.symm,Pl.aP];rfl
theorem Pl.tN {P:Pl} (h:P.ok) {i j:Nat} (y:P.Pair i j) (c:Int) (hc:IsC c):(P.moved i j).aCx c P.n=P.aCx c P.n:=by
 obtain ⟨hi,z,d⟩:=Pl.aER h y;obtain ⟨_,_,h3⟩:=Pl.qG h y;refine aLQ y.hi y.hj y.ne (fun x _ h0 h1=>by unfold Pl.aEo;rw [h3 x h0 h1]) ?_;unfold Pl.aEo;rw [z,d,y.same]
 by_cases e:(P.pg i).cls=c
 ·rw [if_pos e,if_pos e,if_pos e];rcases hi with ⟨a,b⟩|⟨a,b⟩
  ·rw [a,if_pos e];omega
  rw [a,if_neg (by rcases hc with e|e|e<;>omega)];omega
 rw [if_neg e,if_neg e,if_neg e];rcases hi with ⟨a,b⟩|⟨a,b⟩
 ·rw [a,if_neg e]
 rw [a,if_neg (by rcases hc with e|e|e<;>omega)]
set_option maxRecDepth 100000
def Pl.all (P:Pl):Nat:=iQ (fun i=>(P.pg i).count) P.n
section
variable {P:Pl}
theorem Pl.aGs (h:P.ok):P.aCx 0 P.n+P.aCx 1 P.n+P.aCx 2 P.n=P.all:=by
 rw [Pl.aLE h,Pl.zB h];rfl
theorem Pl.mV (h:P.ok) (a n:Int):(P.setCell a n).2.all=P.all:=by
 unfold Pl.all;rw [(h.setCell a n).2];refine lF fun i _=>?_;unfold Pg.count;rw [(oQ i).2]
theorem Pl.aLk (h:P.ok) {c:Int} (d:(P.alloc c).2.1=0):(P.alloc c).2.2.all=P.all+1:=by
 rcases P.gX c with hb|⟨y,⟨i,z,hp,hb⟩|⟨hn,⟨i,z,hp,hb⟩|hf⟩⟩
 ·rw [Pl.kL hb] at d;cases d
 ·rw [Pl.fQ y z hp hb];have hg:=(h i z).gap y hp;have hs:=y.sz;have:=qB (f:=fun x=>(P.pg x).count) (g:=fun x=>((P.set i ((P.pg i).take c ((P.pg i).gap c) fun _=>0)).pg x).count) z (fun j hj e=>by simp only [Pl.aQ _ _ e]);simp only [Pl.aP] at this;have e2:((P.pg i).take c ((P.pg i).gap c) fun _=>0).count=(P.pg i).count+1:=aAg (by omega) hg.2;rw [e2] at this;show iQ (fun x=>((P.set i ((P.pg i).take c ((P.pg i).gap c) fun _=>0)).pg x).count) P.n=P.all+1;unfold Pl.all;omega
 ·rw [Pl.iM y hn z hp hb];have hg:=(h i z).ge;have hu:=(h i z).free (by omega) 0;have:=qB (f:=fun x=>(P.pg x).count) (g:=fun x=>((P.set i ((P.pg i).take c 0 fun _=>0)).pg x).count) z (fun j hj e=>by simp only [Pl.aQ _ _ e]);simp only [Pl.aP] at this;have e2:((P.pg i).take c 0 fun _=>0).count=(P.pg i).count+1:=aAg (by omega) hu;rw [e2] at this;show iQ (fun x=>((P.set i ((P.pg i).take c 0 fun _=>0)).pg x).count) P.n=P.all+1;unfold Pl.all;omega
 rw [Pl.fU y hn hf] at d;cases d
theorem Pl.aLj {c a:Int} {v:Nat->Int} (z:IsC c) (hb:Blk P c a v):(P.free a).2.all+1=P.all:=by
 have d:=hb.begin z;obtain ⟨i,l,rfl,y⟩:=hb;have hr:=z.blk y.kb;have h0:=z.mul_div l;have s:=z.sz;have h1:=y.kb;have t1:(((16*i+l*bsz c:Nat):Int)).toNat / 16=i:=by rw [Int.toNat_natCast];omega
 have t2:(((16*i+l*bsz c:Nat):Int)).toNat % 16=l*bsz c:=by rw [Int.toNat_natCast];omega
 unfold Pl.free;rw [d];simp only [if_true,t1,t2];rw [y.cls,h0.1];have:=qB (f:=fun x=>(P.pg x).count) (g:=fun x=>((P.set i ((P.pg i).release l)).pg x).count) y.hi (fun j hj e=>by simp only [Pl.aQ _ _ e]);simp only [Pl.aP] at this;have e2:((P.pg i).release l).count+1=(P.pg i).count:=aAh (by omega) y.used;show iQ (fun x=>((P.set i ((P.pg i).release l)).pg x).count) P.n+1=P.all;unfold Pl.all;omega
theorem Pl.aND (h:P.ok):P.move.2.2.2.all=P.all:=by
 cases z:P.pair with
 | none=>rw [Pl.dF z]
 | some x=>
  obtain ⟨i,j⟩:=x;have y:=Pl.eH z;rw [Pl.dK z];show (P.moved i j).all=P.all;have d:=(h.moved y).2;rw [<-Pl.aGs (h.moved y).1,<-Pl.aGs h,d,Pl.tN h y 0 (.inl rfl),Pl.tN h y 1 (.inr (.inl rfl)),Pl.tN h y 2 (.inr (.inr rfl))]
theorem aIv (d:P.ok) {l:List Int} (hl:∀ m,m<l.length->IsC (gI l m)):∀ k,k<=l.length->∀ bs Q,dH P l k=some (bs,Q)->Q.all=P.all+k:=by
 intro k
 induction k with
 | zero=>
  intro _ bs Q e;unfold dH at e
  cases e
  rfl
 | succ k ih=>
  intro hk bs Q e;unfold dH at e
  cases z:dH P l k with
  | none=>rw [z] at e;cases e
  | some x=>
   obtain ⟨y,Q'⟩:=x;rw [z] at e;simp only at e;split at e
   ·rename_i he
    cases e
    have s:=eF d hl k (by omega) y Q' z;rw [Pl.aLk s.ok he,ih (by omega) y Q' z];omega
   cases e
theorem aMm (y:P.ok) (a:Int) (l:List Int) (k:Nat):(vX P a l k).all=P.all:=by
 induction k with
 | zero=>rfl
 | succ k z=>unfold vX;rw [Pl.mV (aCT y a l k).1,z]
theorem aKi (y:P.ok) (h:Int) (bs:List Int):(fK P h bs).all=P.all:=by
 unfold fK;rw [aMm (y.setCell _ _).1,Pl.mV y]
theorem aKJ {l:List Int} {cs:List Int} (y:∀ m,m<l.length->IsC (gI cs m)) (hb:∀ m,m<l.length->∃ v,Blk P (gI cs m) (gI l m) v) (hd:∀ m,m<l.length->∀ m',m'<l.length->gI l m=gI l m'->m=m') :
  ∀ k,k<=l.length->(iL P l k).all+k=P.all:=by
 intro k
 induction k with
 | zero=>intro _;rfl
 | succ k ih=>
  intro hk;obtain ⟨v,d⟩:=hb k (by omega);have z:Blk (iL P l k) (gI cs k) (gI l k) v:=zW (y k (by omega)) d (fun m hm e=>by have:=hd m (by omega) k (by omega) e;omega);have:=Pl.aLj (y k (by omega)) z;have:=ih (by omega);show ((iL P l k).free (gI l k)).2.all+(k+1)=P.all;omega
end
def aEk (o:Option Th):Nat:=match o with|none=>0|some o=>o.blocks.length
def wF (ob:Int->Option Th):Nat:=iQ (fun k=>aEk (ob ((k:Int)+1))) 192
theorem rP {ob:Int->Option Th} {h:Int} (z:1<=h/\h<=192) (x:Option Th):wF (eU ob h x)+aEk (ob h)=wF ob+aEk x:=by
 obtain ⟨i,y,rfl⟩:∃ i:Nat,i<192/\h=(i:Int)+1:=⟨(h - 1).toNat,by omega,by omega⟩;have:=qB (f:=fun k=>aEk (ob ((k:Int)+1))) (g:=fun k=>aEk (eU ob ((i:Int)+1) x ((k:Int)+1))) y (fun j hj e=>by show aEk (eU ob ((i:Int)+1) x ((j:Int)+1))=aEk (ob ((j:Int)+1));rw [bD _ _ (by omega)]);simp only [aZ] at this;exact this
def Hp.Full (M:Hp):Prop:=M.P.all=wF M.ob
structure Hp.OkF (M:Hp):Prop where
 ok:M.Ok
 full:M.Full
section
variable {M:Hp} {h:Int} {o:Th}
theorem Hp.OkF.new {n:Nat} (e:1<=n) (y:n<=24):(Hp.new n).OkF:=⟨Hp.Ok.new e y,by
 show iQ (fun i=>Pg.zero.count) n=iQ (fun k=>0) 192;have z:iQ (fun i=>Pg.zero.count) n=0:=nJ.2 (fun i _=>kW (fun _ _=>rfl));have d:iQ (fun k=>0) 192=0:=nJ.2 (fun i _=>rfl);rw [z,d]⟩
theorem Hp.OkF.add (z:M.OkF) (ho:o.ok1) (hz:∀ s,gI o.slots s=0):(M.add o).2.2.OkF:=by
 refine ⟨z.ok.add ho hz,?_⟩;unfold Hp.add;split
 ·rename_i hl;have y:=M.pF hl
  cases e:dH M.P (aT o.slots.length) (aT o.slots.length).length with
  | none=>exact z.full
  | some x=>
   obtain ⟨bs,Q⟩:=x;have s:=eF z.ok.p (l:=aT o.slots.length) (fun m d=>dP _ d) _ (Nat.le_refl _) bs Q e;have ha:=aIv z.ok.p (l:=aT o.slots.length) (fun m d=>dP _ d) _ (Nat.le_refl _) bs Q e;have hs:=rP (ob:=M.ob) (h:=(M.least:Int)+1) (by omega) (some { o with blocks:=bs });rw [y] at hs;have hf:M.P.all=wF M.ob:=z.full;show (fK Q ((M.least:Int)+1) bs).all=wF (eU M.ob ((M.least:Int)+1) (some { o with blocks:=bs }));rw [aKi s.ok];have e2:aEk (some ({ o with blocks:=bs }:Th))=bs.length:=rfl;have e3:aEk none=0:=rfl;have:=s.len;omega
 exact z.full
theorem Hp.OkF.aH (d:M.OkF) (c:Int) (y:List Bool):(M.aH c y).2.2.OkF:=by
 unfold Hp.aH;split
 ·exact d
 rename_i z;exact d.add (qF z).1 (qF z).2
theorem Hp.OkF.aG (y:M.OkF) (k c n:Int):(M.aG k c n).2.2.OkF:=by
 unfold Hp.aG;split
 ·exact y
 rename_i z;split
 ·rename_i hd;exact y.add (qN z hd).1 (qN z hd).2
 exact y
theorem Hp.OkF.release (y:M.OkF) (h:Int):(M.release h).2.OkF:=by
 refine ⟨y.ok.release h,?_⟩;unfold Hp.release
 cases e:M.ob h with
 | none=>exact y.full
 | some o=>
  simp only;split
  ·exact y.full
  have hr:=y.ok.hr h o e;have hs:=rP (ob:=M.ob) hr none;have hl:=aKJ (P:=M.P) (l:=o.blocks) (cs:=aT o.slots.length) (fun m z=>y.ok.isC e z) (fun m z=>⟨_,y.ok.bk h o e m z⟩) (fun m z m' hm' d=>(y.ok.dj h o e h o e m z m' hm' d).2) _ (Nat.le_refl _);have hf:M.P.all=wF M.ob:=y.full;show (iL M.P o.blocks o.blocks.length).all=wF (eU M.ob h none);rw [e] at hs;have d:aEk (some o)=o.blocks.length:=rfl;have e3:aEk none=0:=rfl;omega
theorem Hp.OkF.set (y:M.OkF) (h s v:Int):(M.set h s v).2.OkF:=by
 refine ⟨y.ok.set h s v,?_⟩;unfold Hp.set
 cases e:M.ob h with
 | none=>exact y.full
 | some o=>
  simp only;split
  ·exact y.full
  split
  ·have z:=y.ok.hr h o e;have hs:=rP (ob:=M.ob) z (some (o.put s.toNat v));have hf:M.P.all=wF M.ob:=y.full;show ((M.P.setCell (o.addr s.toNat) v).2).all=wF (eU M.ob h (some (o.put s.toNat v)));rw [Pl.mV y.ok.p];rw [e] at hs;have d:aEk (some o)=o.blocks.length:=rfl;have e3:aEk (some (o.put s.toNat v))=o.blocks.length:=rfl;omega
  exact y.full
theorem Hp.OkF.move (y:M.OkF):M.move.2.2.OkF:=by
 refine ⟨y.ok.move,?_⟩;have hm:=Pl.aND y.ok.p;have hf:M.P.all=wF M.ob:=y.full;unfold Hp.move;split
 ·split
  ·rename_i o z hd;have d:M.owner M.P.move.1<192:=by simpa using hd
   have hs:=rP (ob:=M.ob) (h:=(M.owner M.P.move.1:Int)+1) (by omega) (some (o.moved (o.place M.P.move.1) M.P.move.2.1));rw [z] at hs;have e:aEk (some o)=o.blocks.length:=rfl;have e3:aEk (some (o.moved (o.place M.P.move.1) M.P.move.2.1))=o.blocks.length:=by
    show (o.blocks.set _ _).length=_;simp
   show (if _ then M.P.move.2.2.2 else _).all=wF (eU M.ob _ _);split
   ·omega
   rw [Pl.mV y.ok.p.move.1];omega
  show M.P.move.2.2.2.all=wF M.ob;omega
 exact y.full
end
end Go.Proofs.YthflghdaejbdkaaGreat
namespace Go.Proofs.YthflghdaejbdkaaGreat
open _root_.Go.Proofs.Tryz (prog)
open Go.RowKit
set_option maxHeartbeats 1600000
set_option maxRecDepth 100000
set_option linter.unusedVariables false
theorem aGU (w:World) (q k c l:Nat) (P:Pl) (h:fA w q k c l P) (i:Int) :
  Calls prog 227 #[.pointer (some ⟨q,0,none⟩),.int .i64 i] w (aO w (.tuple #[.int .i64 (P.class i).1,.int .i64 (P.class i).2])):=by
 refine aF fun R y=>?_;obtain ⟨c1,c2,c3,z0,z1,z2,_⟩:=h.facts;have h3:=h.n24
 by_cases z:i<0
 ·rw [show P.class i=(0,1) by unfold Pl.class;rw [if_pos (.inl z)]] at y;have d:decide (i<0)=true:=by simpa using z
  go_in;go_wp2;exact y.o _ _ ⟨rfl,rfl⟩
 have d:decide (i<0)=false:=by simpa using z
 obtain ⟨I,rfl⟩:∃ I:Nat,i=I:=⟨i.toNat,by omega⟩
 by_cases h1:P.n<=I
 ·rw [show P.class (I:Int)=(0,1) by unfold Pl.class;rw [if_pos (.inr (by omega))]] at y;go_in;go_wp2;exact y.o _ _ ⟨rfl,rfl⟩
 have h2:decide (P.n<=I)=false:=by simpa using h1
 have e:I<P.n:=by omega
 have h4:=h.kind I e;rw [show P.class (I:Int)=((P.pg I).cls,0) by unfold Pl.class;rw [if_neg (by omega)];simp] at y;have H:=aA h;clear h h1;go_in;go_wp2;exact y.o _ _ ⟨rfl,rfl⟩
theorem aNa {P:Pl} {i:Nat} (y:(P.pg i).ok) (z:IsC (P.pg i).cls):decide (0<=aGf P i)=(P.pg i).partly (P.pg i).cls:=by
 cases d:(P.pg i).partly (P.pg i).cls with
 | true=>rw [(aCb y z d).1];rw [decide_eq_true_eq];omega
 | false=>rw [aCc y z rfl d];rfl
theorem aAK (w:World) (q k c l:Nat) (P:Pl) (h:fA w q k c l P) (i:Nat) (hi:i<P.n) (d:(P.pg i).ok) (cl:Int) (hC:IsC cl) :
  Calls prog 271 #[.pointer (some ⟨q,0,none⟩),.int .i64 i,.int .i64 cl] w (aO w (.bool ((P.pg i).partly cl))):=by
 refine aF fun R hR=>?_;obtain ⟨c1,c2,c3,z0,z1,z2,_⟩:=h.facts;have h1:=h.n24;have h0:=h.kind i hi
 cases he:((P.pg i).cls == cl)
 ·have hp:Hid ((P.pg i).partly cl=false):=by show _=_;unfold Pg.partly;rw [he];rfl
  go_in;go_wp2;exact hR.o _ _ ⟨by rw [hp.o];rfl,rfl⟩
 have y:(P.pg i).cls=cl:=by simpa using he
 have hg:=tZ w q k c l P h i hi (by rw [y];exact hC);have z:Hid (decide (0<=aGf P i)=(P.pg i).partly cl):=by have:=aNa d (by rw [y];exact hC);rw [y] at this;exact this
 clear y;go_in;go_wp2_with fail;go_fit hg;rintro e _ ⟨rfl,rfl⟩;go_wp2;exact hR.o _ _ ⟨by rw [<-z.o];rfl,rfl⟩
set_option maxHeartbeats 3200000
def aCL (fr y:Option Nat):Value:=.tuple #[.int .i64 (aOI fr),.int .i64 (aOI y),.bool y.isSome]
theorem aFJ (w:World) (q k c l:Nat) (P:Pl) (h:fA w q k c l P) (x5:P.ok) (cl:Int) (hC:IsC cl) :
  Calls prog 251 #[.pointer (some ⟨q,0,none⟩),.int .i64 cl] w (aO w (aCL (P.frm cl P.n) (P.too cl (P.frm cl P.n) P.n))):=by
 refine aF fun R hR=>?_;obtain ⟨c1,c2,c3,z0,z1,z2,_⟩:=h.facts;have x8:=h.n24;have H:=aA h;have h5:=aA x5;clear h x5;go_in;go_wp2;go_loop [7,8] (fun s2 h9=>∃ (i:Nat) (fr:Option Nat),i<=P.n/\h9=.int .i64 i/\Hid (P.frm cl i=fr)/\IsO s2 fr) (fun _ h9=>P.n - (intOf h9).toNat)
 case atStart=>exact ⟨0,none,by omega,rfl,rfl,rfl⟩
 case round=>
  obtain ⟨i,fr,hi,rfl,h3,ho⟩:=hrel
  by_cases h1:i<P.n
  ·have y:=aAK w q k c l P H.o i h1 (h5.o i h1) cl hC;have h6:=nR w q k c l P H.o i h1 (h5.o i h1).w
   cases d:(P.pg i).partly cl with
   | false=>
    rw [d] at y;have hN:=aA (aGh h3.o d);clear d;go_wp2_with fail;go_fit y;rintro e _ ⟨rfl,rfl⟩;go_wp2_with fail;go_round
    case rel=>exact ⟨i+1,fr,by omega,by go_num,hN,ho⟩
    case measure=>simp [intOf];omega
   | true=>
    rw [d] at y;have HP:=aA d;clear d
    cases fr with
    | none=>
     obtain rfl:_=Value.int .i64 (-1):=ho;have hN:=aA (aDQ h3.o HP.o);go_wp2_with fail;go_fit y;rintro e _ ⟨rfl,rfl⟩;go_wp2_with fail;go_round
     case rel=>exact ⟨i+1,some i,by omega,by go_num,hN,rfl⟩
     case measure=>simp [intOf];omega
    | some f=>
     obtain rfl:_=Value.int .i64 (f:Int):=ho;have hf:=(Pl.kV h3.o).1;have h7:=nR w q k c l P H.o f (by omega) (h5.o f (by omega)).w;have x7:decide ((f:Int)<0)=false:=by simp
     have c8:=(P.pg i).count_le;have d8:=(P.pg f).count_le
     by_cases z:(P.pg i).count<=(P.pg f).count
     ·have hN:=aA (aGj h3.o HP.o z);go_wp2_with fail;go_fit y;rintro e _ ⟨rfl,rfl⟩;go_wp2_with fail;go_fit h6;rintro e _ ⟨rfl,rfl⟩;go_wp2_with fail;go_fit h7;rintro e _ ⟨rfl,rfl⟩;go_wp2_with fail;go_round
      case rel=>exact ⟨i+1,some i,by omega,by go_num,hN,rfl⟩
      case measure=>simp [intOf];omega
     have hN:=aA (aGi h3.o z);have x6:decide ((P.pg i).count<=(P.pg f).count)=false:=by simpa using z
     clear z;go_wp2_with fail;go_fit y;rintro e _ ⟨rfl,rfl⟩;go_wp2_with fail;go_fit h6;rintro e _ ⟨rfl,rfl⟩;go_wp2_with fail;go_fit h7;rintro e _ ⟨rfl,rfl⟩;go_wp2_with fail;go_round
     case rel=>exact ⟨i+1,some f,by omega,by go_num,hN,rfl⟩
     case measure=>simp [intOf];omega
  obtain rfl:i=P.n:=by omega
  rw [h3.o] at hR;go_wp2;go_loop [9,10] (fun s3 x1=>∃ (j:Nat) (tq:Option Nat),j<=P.n/\x1=.int .i64 j/\Hid (P.too cl fr j=tq)/\IsO s3 tq) (fun _ x1=>P.n - (intOf x1).toNat)
  case atStart=>exact ⟨0,none,by omega,rfl,rfl,rfl⟩
  case round=>
   clear h1;obtain ⟨j,tq,hj,rfl,h0,h4⟩:=hrel
   by_cases h2:j<P.n
   ·have y:=aAK w q k c l P H.o j h2 (h5.o j h2) cl hC;have h6:=nR w q k c l P H.o j h2 (h5.o j h2).w
    cases fr with
    | none=>
     obtain rfl:_=Value.int .i64 (-1):=ho;have d:=Pl.xB h3.o j h2;have hN:=aA (wL h0.o d);have hb:((j:Int) != -1)=true:=by rw [bne_iff_ne];omega
     rw [d] at y;clear d;go_wp2_with fail;go_fit y;rintro e _ ⟨rfl,rfl⟩;go_wp2_with fail;go_round
     case rel=>exact ⟨j+1,tq,by omega,by go_num,hN,h4⟩
     case measure=>simp [intOf];omega
    | some f=>
     obtain rfl:_=Value.int .i64 (f:Int):=ho
     by_cases h8:j=f
     ·have hN:=aA (aFA h0.o (by rw [h8]));have hb:((j:Int) != (f:Int))=false:=by rw [bne_eq_false_iff_eq];omega
      clear h8;go_wp2_with fail;go_round
      case rel=>exact ⟨j+1,tq,by omega,by go_num,hN,h4⟩
      case measure=>simp [intOf];omega
     have x4:some j≠some f:=by simpa using h8
     have x2:=aA x4;have hb:((j:Int) != (f:Int))=true:=by rw [bne_iff_ne];omega
     clear h8 x4
     cases d:(P.pg j).partly cl with
     | false=>
      rw [d] at y;have hN:=aA (wL h0.o d);clear d;go_wp2_with fail;go_fit y;rintro e _ ⟨rfl,rfl⟩;go_wp2_with fail;go_round
      case rel=>exact ⟨j+1,tq,by omega,by go_num,hN,h4⟩
      case measure=>simp [intOf];omega
     | true=>
      rw [d] at y;have HP:=aA d;clear d
      cases tq with
      | none=>
       obtain rfl:_=Value.int .i64 (-1):=h4;have hN:=aA (aCz h0.o x2.o HP.o);go_wp2_with fail;go_fit y;rintro e _ ⟨rfl,rfl⟩;go_wp2_with fail;go_round
       case rel=>exact ⟨j+1,some j,by omega,by go_num,hN,rfl⟩
       case measure=>simp [intOf];omega
      | some t=>
       obtain rfl:_=Value.int .i64 (t:Int):=h4;have ht:=(Pl.oN h0.o).1;have h7:=nR w q k c l P H.o t (by omega) (h5.o t (by omega)).w;have x7:decide ((t:Int)<0)=false:=by simp
       have c8:=(P.pg j).count_le;have d8:=(P.pg t).count_le
       by_cases z:(P.pg t).count<(P.pg j).count
       ·have hN:=aA (aFB h0.o x2.o HP.o z);go_wp2_with fail;go_fit y;rintro e _ ⟨rfl,rfl⟩;go_wp2_with fail;go_fit h6;rintro e _ ⟨rfl,rfl⟩;go_wp2_with fail;go_fit h7;rintro e _ ⟨rfl,rfl⟩;go_wp2_with fail;go_round
        case rel=>exact ⟨j+1,some j,by omega,by go_num,hN,rfl⟩
        case measure=>simp [intOf];omega
       have hN:=aA (aFC h0.o z);have x6:decide ((P.pg t).count<(P.pg j).count)=false:=by simpa using z
       clear z;go_wp2_with fail;go_fit y;rintro e _ ⟨rfl,rfl⟩;go_wp2_with fail;go_fit h6;rintro e _ ⟨rfl,rfl⟩;go_wp2_with fail;go_fit h7;rintro e _ ⟨rfl,rfl⟩;go_wp2_with fail;go_round
       case rel=>exact ⟨j+1,some t,by omega,by go_num,hN,rfl⟩
       case measure=>simp [intOf];omega
   obtain rfl:j=P.n:=by omega
   rw [h0.o] at hR;have x3:∀ o:Option Nat,∀ v,IsO v o->v=.int .i64 (aOI o):=by
    intro o v hv
    cases o with
    | none=>exact hv
    | some f=>exact hv
   obtain rfl:=x3 fr _ ho
   cases tq with
   | none=>
    obtain rfl:_=Value.int .i64 (-1):=h4;go_wp2_with fail;go_ret3;exact hR.o _ _ ⟨rfl,rfl⟩
   | some t=>
    obtain rfl:_=Value.int .i64 (t:Int):=h4;have x9:decide (0<=(t:Int))=true:=by simp
    clear x3;go_wp2_with fail;go_ret3;exact hR.o _ _ ⟨rfl,rfl⟩
set_option maxHeartbeats 6400000
theorem aFN {P:Pl} {c:Int}:P.dY c=match P.frm c P.n,P.too c (P.frm c P.n) P.n with|some f,some t=>some (f,t)|_,_=>none:=rfl
theorem aAL {P:Pl} {c:Int} (h:P.dY c=none):(P.too c (P.frm c P.n) P.n).isSome=false:=by
 rw [aFN] at h
 cases d:P.frm c P.n with
 | none=>
  cases z:P.too c none P.n with
  | none=>rfl
  | some t=>
   exfalso;have y:=Pl.oN z;rw [Pl.xB d t y.1] at y;exact absurd y.2.2 (by simp)
 | some f=>
  rw [d] at h
  cases z:P.too c (some f) P.n with
  | none=>rfl
  | some t=>rw [z] at h;cases h
theorem aGO {P:Pl} {c:Int} {i j:Nat} (h:P.dY c=some (i,j)):P.frm c P.n=some i/\P.too c (P.frm c P.n) P.n=some j:=by
 rw [aFN] at h
 cases y:P.frm c P.n with
 | none=>rw [y] at h;simp at h
 | some f=>
  rw [y] at h
  cases z:P.too c (some f) P.n with
  | none=>rw [z] at h;simp at h
  | some t=>rw [z] at h;simp at h;rw [h.1,h.2] at*;exact ⟨rfl,rfl⟩
theorem Pl.aHf (P:Pl):(P.pair=none/\P.dY 0=none/\P.dY 1=none/\P.dY 2=none)\/∃ c i j,c<=2/\(∀ d:Nat,d<c->P.dY d=none)/\P.dY (c:Nat)=some (i,j)/\P.pair=some (i,j):=by
 cases y:P.dY 0 with
 | some x=>
  obtain ⟨i,j⟩:=x;exact .inr ⟨0,i,j,by omega,fun d hd=>by omega,y,by unfold Pl.pair;rw [y];rfl⟩
 | none=>
  cases z:P.dY 1 with
  | some x=>
   obtain ⟨i,j⟩:=x;exact .inr ⟨1,i,j,by omega,fun d hd=>by obtain rfl:d=0:=(by omega);exact y,z,by unfold Pl.pair;rw [y,z];rfl⟩
  | none=>
   cases e:P.dY 2 with
   | some x=>
    obtain ⟨i,j⟩:=x;refine .inr ⟨2,i,j,by omega,fun d hd=>?_,e,by unfold Pl.pair;rw [y,z,e];rfl⟩;have h3:d=0\/d=1:=by omega
    rcases h3 with rfl|rfl
    ·exact y
    exact z
   | none=>exact .inl ⟨by unfold Pl.pair;rw [y,z,e];rfl,rfl,rfl,rfl⟩
theorem aGQ (w:World) (q k c l:Nat) (P:Pl) (h:fA w q k c l P) (h0:P.ok) (hp:P.pair=none) :
  Calls prog 226 #[.pointer (some ⟨q,0,none⟩)] w (aO w (.tuple #[.int .i64 0,.int .i64 0,.int .i64 3])):=by
 refine aF fun R hR=>?_;have hn:Hid (∀ d:Nat,d<=2->P.dY d=none):=fun d hd=>Pl.aJz hp (by unfold IsC;omega);have h1:Hid (∀ (d:Nat),d<=2->Calls prog 251 #[.pointer (some ⟨q,0,none⟩),.int .i64 (d:Int)] w (aO w (aCL (P.frm d P.n) (P.too d (P.frm d P.n) P.n)))):=fun d hd=>aFJ w q k c l P h h0 d (by unfold IsC;omega);clear hp;go_in;go_wp2;go_loop [5] (fun v=>∃ d:Nat,d<=3/\v=.int .i64 d) (fun v=>3 - (intOf v).toNat)
 case atStart=>exact ⟨0,by omega,rfl⟩
 case round=>
  obtain ⟨d,hd,rfl⟩:=hrel
  by_cases z:d<=2
  ·have y:=h1.o d z;unfold aCL at y;rw [aAL (hn.o d z)] at y;generalize aOI (P.frm d P.n)=v1 at y;generalize aOI (P.too d (P.frm d P.n) P.n)=v2 at y;go_wp2_with fail;go_fit y;rintro e _ ⟨rfl,rfl⟩;go_wp2_with fail;go_round
   case rel=>exact ⟨d+1,by omega,by go_num⟩
   case measure=>simp [intOf];omega
  obtain rfl:d=3:=by omega
  go_wp2_with fail;go_ret3;exact hR.o _ _ ⟨rfl,rfl⟩
theorem aEU {p:Pg} (z:IsC p.cls) {x:Nat} (hx:x<p.top p.cls*bsz p.cls) (h0:x<16):p.live x=false:=by
 cases hl:p.live x with
 | false=>rfl
 | true=>
  obtain ⟨h1,d⟩:=(Pg.aBT z x).1 hl;have y:=(dU p.used (bpt p.cls)).1 (x / bsz p.cls) (by
   show x / bsz p.cls<p.top p.cls;have hf:=z.facts;rcases hf with ⟨e,_⟩|⟨e,_⟩|⟨e,_⟩<;>(rw [e] at hx ⊢;omega))
  rw [d] at y
  cases y
theorem aIN {p:Pg} {cl:Int} {lg d z y:Nat} (hz:bsz cl=z) (h0:lg*z=d) (hy:y<z) (f:Nat->Int) :
  ({ p.take cl lg (fun x=>if x<y then f x else 0) with cell:=up (p.take cl lg (fun x=>if x<y then f x else 0)).cell (d+y) (f y) }:Pg)=p.take cl lg (fun x=>if x<y+1 then f x else 0):=by
 unfold Pg.take;simp only [hz,h0];congr 1;funext j;unfold up
 by_cases e1:j=d+y
 ·subst e1;rw [if_pos rfl,if_pos (by omega),if_pos (by omega)];congr 1;omega
 rw [if_neg e1];show (if d<=j/\j<d+z then (if j - d<y then f (j - d) else 0) else p.cell j)=_
 by_cases e:d<=j/\j<d+z
 ·rw [if_pos e,if_pos e]
  by_cases e3:j - d<y
  ·rw [if_pos e3,if_pos (by omega)]
  rw [if_neg e3,if_neg (by omega)]
 rw [if_neg e,if_neg e]
theorem aLM {p:Pg} {cl:Int} {d z:Nat} (e:bsz cl=z) (f:Nat->Int):p.take cl d (fun x=>if x<z then f x else 0)=p.take cl d f:=by
 unfold Pg.take;simp only [e];congr 1;funext j
 by_cases y:d*z<=j/\j<d*z+z
 ·rw [if_pos y,if_pos y,if_pos (by omega)]
 rw [if_neg y,if_neg y]
theorem aGP (w:World) (q k c l:Nat) (P:Pl) (h:fA w q k c l P) (h9:P.ok) (i j:Nat) (hp:P.pair=some (i,j)) :
  Calls prog 226 #[.pointer (some ⟨q,0,none⟩)] w fun e w'=>
   e=.returned (.tuple #[.int .i64 ((16*i+(P.pg i).top (P.pg i).cls*bsz (P.pg i).cls:Nat):Int),.int .i64 ((16*j+(P.pg j).gap (P.pg j).cls*bsz (P.pg i).cls:Nat):Int),.int .i64 0])/\fA w' q k c l (P.moved i j)/\Only [k,c,l] w w':=by
 refine aF fun R hR=>?_;have hP:=Pl.eH hp;obtain ⟨cc,b8,a3,y8⟩:∃ cc:Nat,cc<=2/\(∀ d:Nat,d<cc->P.dY d=none)/\P.dY cc=some (i,j):=by
  rcases P.aHf with ⟨h0,_⟩|⟨cc,i',j',h1,h2,h3,h4⟩
  ·rw [h0] at hp;cases hp
  rw [hp] at h4;cases h4;exact ⟨cc,h1,h2,h3⟩
 have h5:(P.pg i).cls=(cc:Int):=(Pl.iV (by unfold IsC;omega) y8).2;have hC:IsC (cc:Int):=by unfold IsC;omega
 have x6:IsC (P.pg i).cls:=by rw [h5];exact hC
 have h6:(P.pg j).cls=(cc:Int):=hP.same.trans h5;have x2:(P.pg i).cls≠-1:=by rw [h5];omega
 have h7:=(h9 i hP.hi).top x2;have y9:(P.pg j).partly (cc:Int)=true:=by rw [<-h5];exact hP.pj
 have nD:=(h9 j hP.hj).gap hC y9;have y2:Hid (P.moved i j=(P.set j ((P.pg j).take (P.pg i).cls ((P.pg j).gap (P.pg j).cls) fun x=>(P.pg i).cell ((P.pg i).top (P.pg i).cls*bsz (P.pg i).cls+x))).set i ((P.pg i).release ((P.pg i).top (P.pg i).cls))):=rfl;rw [h5,h6] at y2;rw [h5,h6] at hR;rw [h5] at h7;have hi:=hP.hi;have hj:=hP.hj;have a2:=hP.ne;have d6:=h.n24;have x7:=hC.blk h7.1;have x8:=hC.blk nD.1;have a5:=hC.sz;have y5:Hid (∀ x,x<(P.pg i).top (cc:Int)*bsz (cc:Int)->(P.pg i).live x=false):=fun x hx=>aEU x6 (by rw [h5];exact hx) (by omega);have y0:Hid ((P.pg i).live ((P.pg i).top (cc:Int)*bsz (cc:Int))=true):=by
  have:=Pg.uM x6 ((P.pg i).top (cc:Int));rw [h5] at this;show _=_;rw [this];exact h7.2
 have a4:Hid (∀ (d:Nat),d<=2->Calls prog 251 #[.pointer (some ⟨q,0,none⟩),.int .i64 (d:Int)] w (aO w (aCL (P.frm d P.n) (P.too d (P.frm d P.n) P.n)))):=fun d hd=>aFJ w q k c l P h h9 d (by unfold IsC;omega);have b6:Hid (Calls prog 251 #[.pointer (some ⟨q,0,none⟩),.int .i64 (cc:Int)] w (aO w (.tuple #[.int .i64 (i:Int),.int .i64 (j:Int),.bool true]))):=by
  have h1:=a4.o cc b8;obtain ⟨e1,e2⟩:=aGO y8;rw [e2,e1] at h1;exact h1
 have a1:=tZ w q k c l P h j hj (by rw [h6];exact hC);obtain ⟨x9,_⟩:=aCb (h9 j hj) hC y9;have hcut:=fun wx=>aAd wx (cc:Int) hC;have y3:Hid (∀ a:Int,a=((j*16+(P.pg j).gap (cc:Int)*bsz (cc:Int):Nat):Int)->Calls prog 253 #[.pointer (some ⟨q,0,none⟩),.int .i64 a,.int .i64 (bsz (cc:Int):Nat)] w fun e w'=>e=.returned (.tuple #[])/\fA w' q k c l (P.set j ((P.pg j).take (cc:Int) ((P.pg j).gap (cc:Int)) fun _=>0))/\Only [c,l] w w'):=
  fun a ha=>aEr w q k c l P h j hj (cc:Int) hC h6 ((P.pg j).gap (cc:Int)) _ _ nD.1 rfl rfl a ha
 have x3:Hid (∀ f,(P.set j ((P.pg j).take (cc:Int) ((P.pg j).gap (cc:Int)) f)).ok):=fun f=>h9.set ((h9 j hj).take hC (.inr h6) nD.1 f);obtain ⟨tk,z7⟩:∃ x,x=(P.pg i).top (cc:Int):=⟨_,rfl⟩;obtain ⟨lg,z8⟩:∃ x,x=(P.pg j).gap (cc:Int):=⟨_,rfl⟩;obtain ⟨z,hz⟩:∃ x,x=bsz (cc:Int):=⟨_,rfl⟩;simp only [<-z7,<-z8,<-hz] at y2 hR h7 nD x7 x8 a5 y5 y0 x9 hcut y3 x3;obtain ⟨mk,y6⟩:∃ x,x=tk*z:=⟨_,rfl⟩;obtain ⟨ml,y7⟩:∃ x,x=lg*z:=⟨_,rfl⟩;simp only [<-y6,<-y7] at y2 hR x7 x8 y5 y0 x9 y3;have c9:mk+z<=16:=x7.1;have c8:ml+z<=16:=x8.1;have f6:z<=8:=by omega
 have c4:0<z:=by omega
 obtain ⟨B,hB⟩:∃ B,B=j*16+ml:=⟨_,rfl⟩;have a0:aGf P j=(B:Int):=by rw [x9,hB];omega
 rw [a0] at a1;have b5:Hid (Calls prog 253 #[.pointer (some ⟨q,0,none⟩),.int .i64 (B:Int),.int .i64 (z:Int)] w fun e w'=>e=.returned (.tuple #[])/\fA w' q k c l (P.set j ((P.pg j).take (cc:Int) lg fun _=>0))/\Only [c,l] w w'):=y3.o _ (by rw [hB]);have H:=aA h;have c7:=aA h9;have a9:=aA a3;have z5:=aA a2;have HZ:=aA hz;have a8:=aA y7;have z4:=aA hB;have b7:=aA h5;have c6:=aA x6;have b0:=aA y6;have d0:=aA h7;have d5:=aA x2;have d9:B<P.n*16:=by omega
 have d8:B+z<=P.n*16:=by omega
 have b3:Hid (((16*j+ml:Nat):Int)=(B:Int)):=by show _=_;omega
 rw [b3.o] at hR;obtain ⟨c1,c2,c3,z0,z1,z2,f0,f1,f2,_⟩:=h.facts;have z3:Hid (∀ x,x<16->w.cell? ⟨l,i*16+x,none⟩=some (.bool ((P.pg i).live x))):=h.live i hi;clear h h9 a3 a2 hz y7 hB h5 x6 y6 z7 z8 hp hP y8 x9 x7 x8 a5 h7 nD x2 y9 y3 a0 h6;go_in;go_wp2;go_loop [5] (fun v=>∃ d:Nat,d<=cc/\v=.int .i64 d) (fun v=>cc - (intOf v).toNat)
 case atStart=>exact ⟨0,by omega,rfl⟩
 case round=>
  obtain ⟨d,hd,rfl⟩:=hrel
  by_cases h8:d<cc
  ·have b9:d<=2:=by omega
   have hc:=a4.o d b9;unfold aCL at hc;rw [aAL (a9.o d h8)] at hc;generalize aOI (P.frm d P.n)=v1 at hc;generalize aOI (P.too d (P.frm d P.n) P.n)=v2 at hc;go_wp2_with fail;go_fit hc;rintro e _ ⟨rfl,rfl⟩;go_wp2_with fail;go_round
   case rel=>exact ⟨d+1,by omega,by go_num⟩
   case measure=>simp [intOf];omega
  obtain rfl:d=cc:=by omega
  go_wp2_with fail;go_fit b6.o;rintro e _ ⟨rfl,rfl⟩;go_wp2;go_loop [9] (fun v=>∃ x s:Nat,x<=mk/\s=i*16+x/\v=.int .i64 s) (fun v=>i*16+mk - (intOf v).toNat)
  case atStart=>exact ⟨0,i*16,by omega,rfl,by go_num⟩
  case round=>
   clear h8;obtain ⟨x,s,hx,hs,rfl⟩:=hrel;have y1:=z3.o x (by omega);rw [<-hs] at y1;have f3:s<P.n*16:=by omega
   by_cases h8:x<mk
   ·rw [y5.o x h8] at y1;have c0:Hid (s+1=i*16+(x+1)):=by show _=_;omega
    have HS:=aA hs;have e9:s<i*16+mk:=by omega
    clear hs;go_wp2_with fail;go_round
    case rel=>exact ⟨x+1,s+1,by omega,c0.o,by go_num⟩
    case measure=>simp [intOf];omega
   obtain rfl:mk=x:=by omega
   rw [y0.o] at y1;have HS:=aA hs;have d7:s+z<=P.n*16:=by omega
   clear hs h8;go_wp2_with fail;go_fit a1;rintro e _ ⟨rfl,rfl⟩;go_wp2_with fail;refine (hcut _).mono ?_;rintro e _ ⟨rfl,rfl⟩;go_wp2_with fail;go_fit b5.o;rintro e w2 ⟨rfl,h2,o2⟩;have H2:=aA h2;clear z0 z1 z2 f0 f1 f2 y1 h2;go_wp2;go_loopw [11] (fun v wr=>∃ y:Nat,y<=z/\v=.int .i64 y/\fA wr q k c l (P.set j ((P.pg j).take (d:Int) lg fun x=>if x<y then (P.pg i).cell (mk+x) else 0))/\Only [c,l] w wr) (fun v _=>z - (intOf v).toNat)
   case atStart=>exact ⟨0,by omega,rfl,by simpa using H2.o,o2⟩
   case round=>
    clear H2 o2;obtain ⟨y,hy,rfl,h3,o3⟩:=hrel;obtain ⟨d1,d2,d3,z0,z1,z2,f0,f1,f2,_⟩:=h3.facts;simp only [Pl.aPX] at z0 z1 z2
    by_cases h8:y<z
    ·have x4:=h3.cells i hi (mk+y) (by omega);rw [Pl.aQ _ _ z5.o] at x4;have x1:=h3.cells j hj (ml+y) (by omega);have h4:=h3.setCell (i:=j) (j:=ml+y) hj (by omega) ((P.pg i).cell (mk+y));rw [Pl.aP,Pl.set_set,aIN HZ.o.symm a8.o.symm h8 (fun x=>(P.pg i).cell (mk+x))] at h4;rw [<-Nat.add_assoc,<-z4.o] at h4;rw [<-Nat.add_assoc,<-z4.o] at x1;rw [<-Nat.add_assoc,<-HS.o] at x4;have H4:=aA h4;have H3:=aA h3;have f4:IntKind.i64.wrap ((B:Int)+(y:Int))=(B:Int)+(y:Int):=IntWalk.i64_in _ (by omega);have f5:IntKind.i64.wrap ((s:Int)+(y:Int))=(s:Int)+(y:Int):=IntWalk.i64_in _ (by omega);have e7:((B:Int)+(y:Int)).toNat=B+y:=by omega
     have e8:((s:Int)+(y:Int)).toNat=s+y:=by omega
     have e0:B+y<P.n*16:=by omega
     have e4:s+y<P.n*16:=by omega
     have e5:(B:Int)+(y:Int)<(P.n:Int)*16:=by omega
     have e6:(s:Int)+(y:Int)<(P.n:Int)*16:=by omega
     have d4:0<=(B:Int)+(y:Int):=by omega
     have c5:0<=(s:Int)+(y:Int):=by omega
     clear h3 h4;go_wp2_with fail;refine (hcut _).mono ?_;rintro e _ ⟨rfl,rfl⟩;go_wp2_with fail;go_still_tail 17,(by kernel_rfl);change wpList _ _ _ _ _ wr.drew;have g1:wr.drew.frozen? ⟨c,B+y,none⟩=false:=f1 _;have g2:∃ v,wr.drew.cell? ⟨c,B+y,none⟩=some v:=⟨_,x1⟩;obtain ⟨vd,g2⟩:=g2;refine wpList_plain rfl fun K hK=>?_;unfold Oper.wp;go_simp;refine hK _ _ ?_;clear hK K;refine wpList_nil ?_;clear g1 g2 x4 x1;go_wp2;exact ⟨⟨y+1,by omega,by go_num,H4.o.sV (lX.of _ 1),(o3.set (by simp) _).drewN 1⟩,by simp [intOf];omega⟩
    obtain rfl:z=y:=by omega
    have a6:Hid ((P.pg j).take (d:Int) lg (fun x=>if x<z then (P.pg i).cell (mk+x) else 0)=(P.pg j).take (d:Int) lg fun x=>(P.pg i).cell (mk+x)):=aLM HZ.o.symm _;rw [a6.o] at h3;have b4:s=i*16+mk:=HS.o;have y4:(P.set j ((P.pg j).take (d:Int) lg fun x=>(P.pg i).cell (mk+x))).pg i=P.pg i:=Pl.aQ _ _ z5.o;have z6:Adr (P.set j ((P.pg j).take (d:Int) lg fun x=>(P.pg i).cell (mk+x))) s i mk:=⟨by omega,by omega,hi,by omega,by omega⟩;have z9:(P.set j ((P.pg j).take (d:Int) lg fun x=>(P.pg i).cell (mk+x))).free (s:Int)=(0,P.moved i j):=by
     obtain ⟨b1,b2⟩:=(uK (x3.o _) z6).1 (by rw [y4];exact y0.o);unfold Pl.free;rw [if_pos b1,if_pos b2];have e1:((s:Int).toNat / 16)=i:=by omega
     have e2:((s:Int).toNat % 16)=mk:=by omega
     rw [e1,e2,y4,y2.o];have e3:mk / bsz (P.pg i).cls=tk:=by rw [b7.o,<-HZ.o,b0.o];exact Nat.mul_div_cancel _ c4
     rw [e3]
    have x5:=aCM wr q k c l _ h3 (x3.o _) (s:Int);rw [z9] at x5;have a7:Hid (((16*i+mk:Nat):Int)=(s:Int)):=by show _=_;omega
    rw [a7.o] at hR;clear h3 b4 z6 z9 y4 h8;go_wp2_with fail;refine (hcut _).mono ?_;rintro e _ ⟨rfl,rfl⟩;go_wp2_with fail;go_fit x5;rintro e w4 ⟨rfl,h4,o4⟩;go_wp2_with fail;go_ret3;exact hR.o _ _ ⟨rfl,h4,(o3.mono (by simp)).trans o4 (by simp)⟩
theorem yE (w:World) (q k c l:Nat) (P:Pl) (h:fA w q k c l P) (y:P.ok) :
  Calls prog 226 #[.pointer (some ⟨q,0,none⟩)] w fun e w'=>
   e=.returned (.tuple #[.int .i64 P.move.1,.int .i64 P.move.2.1,.int .i64 P.move.2.2.1])/\fA w' q k c l P.move.2.2.2/\Only [k,c,l] w w':=by
 cases z:P.pair with
 | none=>
  rw [Pl.dF z];exact (aGQ w q k c l P h y z).mono fun e w' ⟨a,b⟩=>⟨a,b▸h,b▸Only.refl _ _⟩
 | some x=>
  obtain ⟨i,j⟩:=x;rw [Pl.dK z];exact aGP w q k c l P h y i j z
theorem aFZ:(prog.info? 3).map (fun i=>(i.zero,i.size,i.bytes))=some (some (.int .i64 0),1,8):=by kernel_rfl
theorem aDo:(prog.info? 4).map (fun i=>(i.zero,i.size,i.bytes))=some (some (.bool false),1,1):=by kernel_rfl
def Pl.kinds (P:Pl):List Value:=(List.range P.n).map fun i=>.int .i64 (P.pg i).cls
def Pl.vH (P:Pl):List Value:=(List.range (P.n*16)).map fun x=>.int .i64 ((P.pg (x / 16)).cell (x % 16))
def Pl.uN (P:Pl):List Value:=(List.range (P.n*16)).map fun x=>.bool ((P.pg (x / 16)).live (x % 16))
theorem fA.aOF {w:World} {q k c l:Nat} {P:Pl} (hq:∃ T d e c3,Row w q T [.slice (some ⟨k,0,none⟩) P.n d,.slice (some ⟨c,0,none⟩) (P.n*16) e,.slice (some ⟨l,0,none⟩) (P.n*16) c3])
  (rk:∃ T cs,Row w k T cs) (rc:∃ T cs,Row w c T cs) (rl:∃ T cs,Row w l T cs)
  (hk:∀ j v,P.kinds[j]?=some v->w.cell? ⟨k,j,none⟩=some v) (hc:∀ j v,P.vH[j]?=some v->w.cell? ⟨c,j,none⟩=some v) (hl:∀ j v,P.uN[j]?=some v->w.cell? ⟨l,j,none⟩=some v)
  (ne:q≠k/\q≠c/\q≠l/\k≠c/\k≠l/\c≠l) (n1:1<=P.n) (z:P.n<=24):fA w q k c l P:=by
 refine ⟨hq,rk,rc,rl,fun i y=>hk i _ (by simp [Pl.kinds,y]),fun i y j hj=>?_,fun i y j hj=>?_,ne,n1,z⟩
 ·have:=hc (i*16+j) (.int .i64 ((P.pg ((i*16+j) / 16)).cell ((i*16+j) % 16))) (by unfold Pl.vH;rw [List.getElem?_map,List.getElem?_range (by omega)];rfl);rw [show (i*16+j) / 16=i by omega,show (i*16+j) % 16=j by omega] at this;exact this
 have:=hl (i*16+j) (.bool ((P.pg ((i*16+j) / 16)).live ((i*16+j) % 16))) (by unfold Pl.uN;rw [List.getElem?_map,List.getElem?_range (by omega)];rfl);rw [show (i*16+j) / 16=i by omega,show (i*16+j) % 16=j by omega] at this;exact this
theorem fA.news {w:World} {q k c l:Nat} {P:Pl} (h:fA w q k c l P):(∀ j v,P.kinds[j]?=some v->w.cell? ⟨k,j,none⟩=some v)/\(∀ j v,P.vH[j]?=some v->w.cell? ⟨c,j,none⟩=some v)/\(∀ j v,P.uN[j]?=some v->w.cell? ⟨l,j,none⟩=some v):=by
 refine ⟨fun j v y=>?_,fun j v y=>?_,fun j v y=>?_⟩
 ·obtain ⟨z,rfl⟩:=aBK y;exact h.kind j z
 ·obtain ⟨z,rfl⟩:=aBK y;have:=h.cells (j / 16) (by omega) (j % 16) (by omega);rwa [show j / 16*16+j % 16=j by omega] at this
 obtain ⟨z,rfl⟩:=aBK y;have:=h.live (j / 16) (by omega) (j % 16) (by omega);rwa [show j / 16*16+j % 16=j by omega] at this
theorem aOu {w wl:World} {a b c:Addr} {y z d:Value} (o:Obj) (h:wl.cell? a=some y/\wl.cell? b=some z/\wl.cell? c=some d/\Only [] w wl) :
  (wl.alloc o).cell? a=some y/\(wl.alloc o).cell? b=some z/\(wl.alloc o).cell? c=some d/\Only [] w (wl.alloc o):=
 have k:Only [] wl (wl.alloc o):=(Only.refl [] wl).alloc o
 ⟨k.cell h.1 (by simp),k.cell h.2.1 (by simp),k.cell h.2.2.1 (by simp),h.2.2.2.alloc o⟩
theorem nS (w:World) (q k c l:Nat) (P:Pl) (h:fA w q k c l P) :
  Calls prog 190 #[.pointer (some ⟨q,0,none⟩)] w fun e w'=>
   ∃ q' k' c' l',e=.returned (.pointer (some ⟨q',0,none⟩))/\fA w' q' k' c' l' P/\Only [] w w'/\w.heap.size<=q'/\w.heap.size<=k'/\w.heap.size<=c'/\w.heap.size<=l':=by
 refine aF fun R hR=>?_;obtain ⟨c1,c2,c3,z0,z1,z2,_⟩:=h.facts;have x6:=h.n24;have h1:=h.n1;have HN:=aA h.news;have x7:0<P.n*16:=by omega
 have x8:P.n*16<=1099511627776:=by omega
 obtain ⟨i0,h6,x2,x3,x4⟩:=info_parts aFZ;obtain ⟨j0,h7,h8,h9,x1⟩:=info_parts aDo;have I0:=aA h6;have I1:=aA x2;have I2:=aA x3;have I3:Hid (i0.bytes<=16):=by show _<=_;rw [x4];decide
 have J0:=aA h7;have J1:=aA h8;have J2:=aA h9;have J3:Hid (j0.bytes<=16):=by show _<=_;rw [x1];decide
 have LK:Hid (P.kinds.length=P.n):=by show _=_;simp [Pl.kinds]
 have LC:Hid (P.vH.length=P.n*16):=by show _=_;simp [Pl.vH]
 have LL:Hid (P.uN.length=P.n*16):=by show _=_;simp [Pl.uN]
 have hO:Only [] w w.drew:=(Only.refl _ _).drewN 1;clear h6 x2 x3 x4 h7 h8 h9 x1 h;go_in;go_wp2;go_region_held3 (fun w'=>w'.cell? ⟨q,0,none⟩=some (.slice (some ⟨k,0,none⟩) P.n c1)/\w'.cell? ⟨q,1,none⟩=some (.slice (some ⟨c,0,none⟩) (P.n*16) c2)/\w'.cell? ⟨q,2,none⟩=some (.slice (some ⟨l,0,none⟩) (P.n*16) c3)/\Only [] w w')
  (first
   | (go_keep;done)
   | (go_split_ands;exact ⟨y.only.cell (by assumption) (by simp),y.only.cell (by assumption) (by simp),y.only.cell (by assumption) (by simp),Only.trans (by assumption) y.only (by simp)⟩)
   | (go_split_ands;exact ⟨z.only.cell (by assumption) (by simp),z.only.cell (by assumption) (by simp),z.only.cell (by assumption) (by simp),Only.trans (by assumption) z.only (by simp)⟩)
   | (go_split_ands;exact ⟨h0.only.cell (by assumption) (by simp),h0.only.cell (by assumption) (by simp),h0.only.cell (by assumption) (by simp),Only.trans (by assumption) h0.only (by simp)⟩)
   | (exact aOu _ (by assumption)))
  (first
   | (refine jW rfl (.const (.slice none 0 0)) (.tmp 8) 23 rfl 3 i0 _ Tryz.underlying23 I0.o I1.o I2.o I3.o rfl ⟨k,0,none⟩ P.n c1 P.kinds (by rfl) LK.o (fun j u hu=>by rw [dN,Nat.zero_add];exact Only.cell hO (HN.o.1 j u hu) (by simp)) (by omega) (by omega) ?_;intro gk h4 wk y)
   | (refine jW rfl (.const (.slice none 0 0)) (.tmp 13) 23 rfl 3 i0 _ Tryz.underlying23 I0.o I1.o I2.o I3.o rfl ⟨c,0,none⟩ (P.n*16) c2 P.vH (by rfl) LC.o (fun j u hu=>by rw [dN,Nat.zero_add];exact Only.cell (hO.trans y.only (by simp)) (HN.o.2.1 j u hu) (by simp)) (by omega) (by omega) ?_;intro gc h5 wc z)
   | (refine jW rfl (.const (.slice none 0 0)) (.tmp 18) 50 rfl 4 j0 _ Tryz.underlying50 J0.o J1.o J2.o J3.o rfl ⟨l,0,none⟩ (P.n*16) c3 P.uN (by rfl) LL.o (fun j u hu=>by rw [dN,Nat.zero_add];exact Only.cell ((hO.trans y.only (by simp)).trans z.only (by simp)) (HN.o.2.2 j u hu) (by simp)) (by omega) (by omega) ?_;intro gl h3 wl h0))
 rename_i h2;clear h2;have H1:=aA y;have H2:=aA z;have H3:=aA h0;have HO:=aA hO;clear y z h0 hO;go_wp2_with fail;have o3:Only [] w wl:=((HO.o.trans H1.o.only (by simp)).trans H2.o.only (by simp)).trans H3.o.only (by simp);have x5:Only [] wk wl:=H2.o.only.trans H3.o.only (by simp);have d:Only [] wl (wl.alloc (.cells #[.slice (some ⟨gk,0,none⟩) P.n h4,.slice (some ⟨gc,0,none⟩) (P.n*16) h5,.slice (some ⟨gl,0,none⟩) (P.n*16) h3] 245)):=(Only.refl _ _).alloc _;have g1:=H1.o.ge;have g2:=H2.o.ge;have g3:=H3.o.ge;have l1:=H1.o.lt;have l2:=H2.o.lt;have l3:=H3.o.lt;have e0:=HO.o.size;have e1:=H1.o.only.size;have e2:=H2.o.only.size;have e3:=H3.o.only.size;have e4:w.drew.heap.size=w.heap.size:=rfl;refine hR.o _ _ ⟨wl.heap.size,gk,gc,gl,rfl,?_,o3.trans d (by simp),by omega,by omega,by omega,by omega⟩;refine fA.aOF ⟨_,h4,h5,h3,Row.new wl _ [_,_,_]⟩ ?_ ?_ ?_ (fun j v hv=>(x5.trans d (by simp)).cell (H1.o.cell j v hv) (by simp)) (fun j v hv=>(H3.o.only.trans d (by simp)).cell (H2.o.cell j v hv) (by simp)) (fun j v hv=>d.cell (H3.o.cell j v hv) (by simp)) ⟨by omega,by omega,by omega,by omega,by omega,by omega⟩ h1 x6
 ·obtain ⟨T,cs,r⟩:=H1.o.row;exact ⟨T,cs,(x5.trans d (by simp)).row r (by simp)⟩
 ·obtain ⟨T,cs,r⟩:=H2.o.row;exact ⟨T,cs,(H3.o.only.trans d (by simp)).row r (by simp)⟩
 obtain ⟨T,cs,r⟩:=H3.o.row;exact ⟨T,cs,d.row r (by simp)⟩
set_option maxHeartbeats 3200000
theorem aMi (w:World) (n:Int) (h:n<1\/24<n) :
  Calls prog 171 #[.int .i64 n] w (aO w (.tuple #[.pointer none,.int .i64 1])):=by
 refine aF fun R y=>?_
 by_cases z:n<1
 ·go_in;go_wp2;exact y.o _ _ ⟨rfl,rfl⟩
 have e:24<n:=by omega
 have d:decide (n<1)=false:=by simpa using z
 clear h;go_in;go_wp2;exact y.o _ _ ⟨rfl,rfl⟩
structure aNF (w wx:World) (n q c l:Nat):Prop where
 hq:∃ T,Row wx q T [.slice none 0 0,.slice (some ⟨c,0,none⟩) (n*16) (n*16),.slice (some ⟨l,0,none⟩) (n*16) (n*16)]
 rc:∃ T cs,Row wx c T cs
 rl:∃ T cs,Row wx l T cs
 cc:∀ x,x<n*16->wx.cell? ⟨c,x,none⟩=some (.int .i64 0)
 cl:∀ x,x<n*16->wx.cell? ⟨l,x,none⟩=some (.bool false)
 ne:q≠c/\q≠l/\c≠l
 ge:w.heap.size<=q/\w.heap.size<=c/\w.heap.size<=l
 lt:q<wx.heap.size/\c<wx.heap.size/\l<wx.heap.size
 o:Only [] w wx
theorem aAW {v:Value} (h:v.cells=#[v]) {n x:Nat} (hx:x<n):(madeCells v.cells (n*1)).toList[x]?=some v:=by
 rw [h];simp [madeCells,hx,Nat.mod_one]
theorem aQk (w:World) (n:Nat) (y d:Array Value) (hi:∀ x,x<n*16->y.toList[x]?=some (.int .i64 0)) (hb:∀ x,x<n*16->d.toList[x]?=some (.bool false)) (z e T3:Nat) :
  aNF w (((w.drew.alloc (.cells y z)).alloc (.cells d e)).alloc (.cells #[.slice none 0 0,.slice (some ⟨w.heap.size,0,none⟩) (n*16) (n*16),.slice (some ⟨w.heap.size+1,0,none⟩) (n*16) (n*16)] T3)) n (w.heap.size+1+1) w.heap.size (w.heap.size+1):=by
 have r1:Row (((w.drew.alloc (.cells y z)).alloc (.cells d e)).alloc (.cells #[.slice none 0 0,.slice (some ⟨w.heap.size,0,none⟩) (n*16) (n*16),.slice (some ⟨w.heap.size+1,0,none⟩) (n*16) (n*16)] T3)) w.heap.size z y.toList:=((Row.new w.drew z y.toList).alloc _).alloc _;have r2:=(Row.new (w.drew.alloc (.cells y z)) e d.toList).alloc (.cells #[.slice none 0 0,.slice (some ⟨w.heap.size,0,none⟩) (n*16) (n*16),.slice (some ⟨w.heap.size+1,0,none⟩) (n*16) (n*16)] T3);have e2:(w.drew.alloc (.cells y z)).heap.size=w.heap.size+1:=by simp
 rw [e2] at r2;have r3:=Row.new ((w.drew.alloc (.cells y z)).alloc (.cells d e)) T3 [.slice none 0 0,.slice (some ⟨w.heap.size,0,none⟩) (n*16) (n*16),.slice (some ⟨w.heap.size+1,0,none⟩) (n*16) (n*16)];have e3:((w.drew.alloc (.cells y z)).alloc (.cells d e)).heap.size=w.heap.size+1+1:=by simp
 rw [e3] at r3;exact ⟨⟨_,r3⟩,⟨_,_,r1⟩,⟨_,_,r2⟩,fun x hx=>r1.cell x (hi x hx),fun x hx=>r2.cell x (hb x hx),⟨by omega,by omega,by omega⟩,⟨by omega,by omega,by omega⟩,⟨r3.lt,r1.lt,r2.lt⟩,((((Only.refl [] w).drewN 1).alloc _).alloc _).alloc _⟩
theorem aQj (w:World) (n:Nat) (d y:Array Value) (hi:∀ x,x<n*16->d.toList[x]?=some (.int .i64 0)) (hb:∀ x,x<n*16->y.toList[x]?=some (.bool false)) (e z T3:Nat) :
  aNF w (((w.drew.alloc (.cells y z)).alloc (.cells d e)).alloc (.cells #[.slice none 0 0,.slice (some ⟨w.heap.size+1,0,none⟩) (n*16) (n*16),.slice (some ⟨w.heap.size,0,none⟩) (n*16) (n*16)] T3)) n (w.heap.size+1+1) (w.heap.size+1) w.heap.size:=by
 have r1:Row (((w.drew.alloc (.cells y z)).alloc (.cells d e)).alloc (.cells #[.slice none 0 0,.slice (some ⟨w.heap.size+1,0,none⟩) (n*16) (n*16),.slice (some ⟨w.heap.size,0,none⟩) (n*16) (n*16)] T3)) w.heap.size z y.toList:=((Row.new w.drew z y.toList).alloc _).alloc _;have r2:=(Row.new (w.drew.alloc (.cells y z)) e d.toList).alloc (.cells #[.slice none 0 0,.slice (some ⟨w.heap.size+1,0,none⟩) (n*16) (n*16),.slice (some ⟨w.heap.size,0,none⟩) (n*16) (n*16)] T3);have e2:(w.drew.alloc (.cells y z)).heap.size=w.heap.size+1:=by simp
 rw [e2] at r2;have r3:=Row.new ((w.drew.alloc (.cells y z)).alloc (.cells d e)) T3 [.slice none 0 0,.slice (some ⟨w.heap.size+1,0,none⟩) (n*16) (n*16),.slice (some ⟨w.heap.size,0,none⟩) (n*16) (n*16)];have e3:((w.drew.alloc (.cells y z)).alloc (.cells d e)).heap.size=w.heap.size+1+1:=by simp
 rw [e3] at r3;exact ⟨⟨_,r3⟩,⟨_,_,r2⟩,⟨_,_,r1⟩,fun x hx=>r2.cell x (hi x hx),fun x hx=>r1.cell x (hb x hx),⟨by omega,by omega,by omega⟩,⟨by omega,by omega,by omega⟩,⟨r3.lt,r2.lt,r1.lt⟩,((((Only.refl [] w).drewN 1).alloc _).alloc _).alloc _⟩
theorem aMh (w:World) (n:Nat) (h1:1<=n) (y9:n<=24) :
  Calls prog 171 #[.int .i64 n] w fun e w'=>
   ∃ q k c l,e=.returned (.tuple #[.pointer (some ⟨q,0,none⟩),.int .i64 0])/\fA w' q k c l (Pl.zero n)/\Only [] w w'/\w.heap.size<=q/\w.heap.size<=k/\w.heap.size<=c/\w.heap.size<=l:=by
 refine aF fun R hR=>?_;have a9:decide ((n:Int)<1)=false:=by simp;omega
 have b0:decide (24<(n:Int))=false:=by simp;omega
 obtain ⟨i0,z1,z8,y8,z9⟩:=info_parts aFZ;obtain ⟨j0,z2,z5,y7,z7⟩:=info_parts aDo;obtain ⟨CI,y3⟩:∃ CI,CI=madeCells (Value.int .i64 0).cells (n*16*1):=⟨_,rfl⟩;obtain ⟨CB,y2⟩:∃ CB,CB=madeCells (Value.bool false).cells (n*16*1):=⟨_,rfl⟩;have FI:Hid (∀ x,x<n*16->CI.toList[x]?=some (.int .i64 0)):=fun x hx=>by rw [y3];exact aAW rfl hx
 have FB:Hid (∀ x,x<n*16->CB.toList[x]?=some (.bool false)):=fun x hx=>by rw [y2];exact aAW rfl hx
 have b1:IntKind.i64.wrap ((n:Int)*16)=(n:Int)*16:=IntWalk.i64_in _ (by omega);have eN:((n:Int)*16).toNat=n*16:=by omega
 have z4:∀ wx,(Instr.makeSlice 23 (.int .i64 ((n:Int)*16)) (.int .i64 ((n:Int)*16))).run prog wx=.ok (.slice (some ⟨wx.heap.size,0,none⟩) (n*16) (n*16)) (wx.alloc (.cells CI 3)):=fun wx=>by
  rw [run_makeSlice (P:=prog) (w:=wx) 23 3 i0 _ Tryz.underlying23 z1 z8 .i64 .i64 _ _ (by omega) (by omega) (by rw [y8];omega) (by rw [z9];omega) (by omega),eN,y8,y3]
 have z3:∀ wx,(Instr.makeSlice 50 (.int .i64 ((n:Int)*16)) (.int .i64 ((n:Int)*16))).run prog wx=.ok (.slice (some ⟨wx.heap.size,0,none⟩) (n*16) (n*16)) (wx.alloc (.cells CB 4)):=fun wx=>by
  rw [run_makeSlice (P:=prog) (w:=wx) 50 4 j0 _ Tryz.underlying50 z2 z5 .i64 .i64 _ _ (by omega) (by omega) (by rw [y7];omega) (by rw [z7];omega) (by omega),eN,y7,y2]
 clear z1 z8 y8 z9 z2 z5 y7 z7 y3 y2;go_in;go_wp2_with fail;go_region
 ·have hr:aNF w (((w.alloc (.cells CI 3)).alloc (.cells CB 4)).alloc (.cells #[.slice none 0 0,.slice (some ⟨w.heap.size,0,none⟩) (n*16) (n*16),.slice (some ⟨w.heap.size+1,0,none⟩) (n*16) (n*16)] 245)).drew n (w.heap.size+1+1) (w.heap.size) (w.heap.size+1):=aQk w n CI CB FI.o FB.o _ _ _;generalize (((w.alloc (.cells CI 3)).alloc (.cells CB 4)).alloc (.cells #[.slice none 0 0,.slice (some ⟨w.heap.size,0,none⟩) (n*16) (n*16),.slice (some ⟨w.heap.size+1,0,none⟩) (n*16) (n*16)] 245)).drew=wx at*;generalize w.heap.size+1+1=q at*;generalize w.heap.size+1=l at*;obtain ⟨c,x4⟩:∃ x,x=w.heap.size:=⟨_,rfl⟩;rw [<-x4] at hr ⊢;clear x4 z4 z3;have HR:=aA hr;clear hr;go_wp2;go_loopw [5] (fun v wr=>∃ (i:Nat) (kv:Value),i<=n/\v=.int .i64 i/\(∃ T,Row wr q T [kv,.slice (some ⟨c,0,none⟩) (n*16) (n*16),.slice (some ⟨l,0,none⟩) (n*16) (n*16)])/\aN wr w.heap.size kv (List.replicate i (-1))/\
    (∀ b,kv.ownBlock=some b->b≠q/\b≠c/\b≠l)/\(∃ T cs,Row wr c T cs)/\(∃ T cs,Row wr l T cs)/\(∀ x,x<n*16->wr.cell? ⟨c,x,none⟩=some (.int .i64 0))/\(∀ x,x<n*16->wr.cell? ⟨l,x,none⟩=some (.bool false))/\Only [] w wr/\q<wr.heap.size/\c<wr.heap.size/\l<wr.heap.size) (fun v _=>n - (intOf v).toNat)
  case atStart=>exact ⟨0,_,by omega,rfl,HR.o.hq,aN.nil _ _,by simp [Value.ownBlock],HR.o.rc,HR.o.rl,HR.o.cc,HR.o.cl,HR.o.o,HR.o.lt.1,HR.o.lt.2.1,HR.o.lt.2.2⟩
  case round=>
   obtain ⟨i,kv,hi,rfl,hq,hk,hb,rc,rl,cc,cl,o,a5,a6,a7⟩:=hrel;obtain ⟨T,hq⟩:=hq;have z0:=hq.cell 0 rfl;have zf:=hq.free 0;have HK:=aA hk;have HB:=aA hb;have HQ:=aA hq;have RC:=aA rc;have RL:=aA rl;have CC:=aA cc;have CL:=aA cl;have HO:=aA o;clear hk hb hq rc rl cc cl o
   by_cases a3:i<n
   ·have x5:=HK.o.alloc (.cells #[.int .i64 (-1)] 3);have x9:=aA x5;clear x5;go_wp2_with (at_builtin;refine bH rfl _ _ rfl w.heap.size kv _ rfl x9.o wr.heap.size (-1) rfl ?c1 ?c2 ?c3 ?c4)
    case c1=>exact (Row.new wr _ [_]).cell 0 rfl
    case c2=>simp;omega
    case c3=>have:=HO.o.size;simp;omega
    case c4=>
     intro v' w6 f6 o6 b6;have x2:Only kv.ownBlock.toList wr w6:=((Only.refl _ wr).alloc _).trans o6 (fun x hx=>.inl hx);have x6:∀ b,kv.ownBlock=some b->w.heap.size<=b/\b<wr.heap.size:=HK.o.own;have h6:=x2.row HQ.o (fun hx=>by
      cases z:kv.ownBlock with
      | none=>rw [z] at hx;simp at hx
      | some b=>rw [z] at hx;simp at hx;exact (HB.o b z).1 hx.symm)
     rcases f6.form with ⟨_,h9⟩|⟨g,cap,y6,_⟩
     ·simp at h9
     have z6:=h6.cell 0 rfl;have a8:=h6.free 0;have F6:=aA f6;have h0:=aA x2;have B6:=aA b6;have Q6:=aA h6;have y0:=aA x6;clear f6 o6 b6 x2 h6 x6;subst y6;go_wp2_with fail;have a4:=h0.o.size;have x3:∀ b,(Value.slice (some ⟨g,0,none⟩) (List.replicate i (-1:Int) ++ [-1]).length cap).ownBlock=some b->b≠q/\b≠c/\b≠l:=by
      intro b h3;rcases B6.o with h7|h7
      ·exact HB.o b (by rw [<-h7];exact h3)
      rw [h7] at h3;simp at h3;omega
     have h4:∀ x,x∈kv.ownBlock.toList->x≠c/\x≠l:=by
      intro x hx
      cases z:kv.ownBlock with
      | none=>rw [z] at hx;simp at hx
      | some b=>rw [z] at hx;simp at hx;subst hx;exact (HB.o _ z).2
     have d:=HR.o.ne;refine ⟨⟨i+1,_,by omega,by go_num,⟨T,Q6.o.set 0 _⟩,?_,x3,?_,?_,fun x hx=>?_,fun x hx=>?_,?_,by simp;omega,by simp;omega,by simp;omega⟩,by simp [intOf];omega⟩
     ·have h8:=F6.o;have x8:(List.replicate i (-1:Int) ++ [-1]).length=i+1:=by simp
      rw [x8] at h8;rw [show List.replicate (i+1) (-1:Int)=List.replicate i (-1) ++ [-1] from List.replicate_succ'];exact h8.only ((Only.refl [q] w6).set (p:=⟨q,0,none⟩) (by simp) _) (fun b h3=>by simpa using (x3 b h3).1)
     ·obtain ⟨T',cs,r⟩:=RC.o;exact ⟨T',cs,((h0.o.row r (fun hx=>(h4 _ hx).1 rfl))).other (by simpa using d.1) _⟩
     ·obtain ⟨T',cs,r⟩:=RL.o;exact ⟨T',cs,((h0.o.row r (fun hx=>(h4 _ hx).2 rfl))).other (by simpa using d.2.1) _⟩
     ·exact ((Only.refl [q] w6).set (by simp) _).cell (h0.o.cell (CC.o x hx) (fun h2=>(h4 _ h2).1 rfl)) (by simpa using d.1.symm)
     ·exact ((Only.refl [q] w6).set (by simp) _).cell (h0.o.cell (CL.o x hx) (fun h2=>(h4 _ h2).2 rfl)) (by simpa using d.2.1.symm)
     exact (HO.o.trans h0.o (fun x hx=>by
      cases z:kv.ownBlock with
      | none=>rw [z] at hx;simp at hx
      | some b=>rw [z] at hx;simp at hx;subst hx;exact .inr (y0.o _ z).1)).set (.inr HR.o.ge.1) _
   have y5:i=n:=by omega
   subst y5;go_wp2_with fail;rcases HK.o.form with ⟨_,h9⟩|⟨g,cap,h5,hg,a2,a1,y4⟩
   ·have:=congrArg List.length h9;simp at this;omega
   have x1:=HB.o g (by rw [h5];rfl);have d:=HR.o.ne;have x7:=HQ.o;rw [h5,List.length_replicate] at x7;refine hR.o _ _ ⟨q,g,c,l,rfl,⟨⟨T,cap,_,_,x7⟩,?_,RC.o,RL.o,fun x hx=>?_,fun x hx y hy=>?_,fun x hx y hy=>?_,⟨x1.1.symm,d.1,d.2.1,x1.2.1,x1.2.2,d.2.2⟩,h1,y9⟩,HO.o,HR.o.ge.1,hg,HR.o.ge.2.1,HR.o.ge.2.2⟩
   ·rcases HK.o.2 with ⟨e,_⟩|⟨g',a0,y1,e,_,hh,_⟩
    ·rw [h5] at e;cases e
    rw [h5] at e;simp only [Value.slice.injEq,Option.some.injEq,Addr.mk.injEq] at e;obtain ⟨⟨rfl,_⟩,_⟩:=e;exact ⟨_,y1.toList,by unfold Row;rw [hh]⟩
   ·have h2:x<i:=hx;have:=y4 x (by simp;exact h2);rw [this];simp [gI,h2,Pl.zero,Pg.zero]
   ·exact CC.o _ (by show _<i*16;have:x<i:=hx;omega)
   exact CL.o _ (by show _<i*16;have:x<i:=hx;omega)
 have hr:aNF w (((w.alloc (.cells CB 4)).alloc (.cells CI 3)).alloc (.cells #[.slice none 0 0,.slice (some ⟨w.heap.size+1,0,none⟩) (n*16) (n*16),.slice (some ⟨w.heap.size,0,none⟩) (n*16) (n*16)] 245)).drew n (w.heap.size+1+1) (w.heap.size+1) (w.heap.size):=aQj w n CI CB FI.o FB.o _ _ _;generalize (((w.alloc (.cells CB 4)).alloc (.cells CI 3)).alloc (.cells #[.slice none 0 0,.slice (some ⟨w.heap.size+1,0,none⟩) (n*16) (n*16),.slice (some ⟨w.heap.size,0,none⟩) (n*16) (n*16)] 245)).drew=wx at*;generalize w.heap.size+1+1=q at*;generalize w.heap.size+1=c at*;obtain ⟨l,x4⟩:∃ x,x=w.heap.size:=⟨_,rfl⟩;rw [<-x4] at hr ⊢;clear x4 z4 z3;have HR:=aA hr;clear hr;go_wp2;go_loopw [5] (fun v wr=>∃ (i:Nat) (kv:Value),i<=n/\v=.int .i64 i/\(∃ T,Row wr q T [kv,.slice (some ⟨c,0,none⟩) (n*16) (n*16),.slice (some ⟨l,0,none⟩) (n*16) (n*16)])/\aN wr w.heap.size kv (List.replicate i (-1))/\
   (∀ b,kv.ownBlock=some b->b≠q/\b≠c/\b≠l)/\(∃ T cs,Row wr c T cs)/\(∃ T cs,Row wr l T cs)/\(∀ x,x<n*16->wr.cell? ⟨c,x,none⟩=some (.int .i64 0))/\(∀ x,x<n*16->wr.cell? ⟨l,x,none⟩=some (.bool false))/\Only [] w wr/\q<wr.heap.size/\c<wr.heap.size/\l<wr.heap.size) (fun v _=>n - (intOf v).toNat)
 case atStart=>exact ⟨0,_,by omega,rfl,HR.o.hq,aN.nil _ _,by simp [Value.ownBlock],HR.o.rc,HR.o.rl,HR.o.cc,HR.o.cl,HR.o.o,HR.o.lt.1,HR.o.lt.2.1,HR.o.lt.2.2⟩
 case round=>
  obtain ⟨i,kv,hi,rfl,hq,hk,hb,rc,rl,cc,cl,o,a5,a6,a7⟩:=hrel;obtain ⟨T,hq⟩:=hq;have z0:=hq.cell 0 rfl;have zf:=hq.free 0;have HK:=aA hk;have HB:=aA hb;have HQ:=aA hq;have RC:=aA rc;have RL:=aA rl;have CC:=aA cc;have CL:=aA cl;have HO:=aA o;clear hk hb hq rc rl cc cl o
  by_cases a3:i<n
  ·have x5:=HK.o.alloc (.cells #[.int .i64 (-1)] 3);have x9:=aA x5;clear x5;go_wp2_with (at_builtin;refine bH rfl _ _ rfl w.heap.size kv _ rfl x9.o wr.heap.size (-1) rfl ?c1 ?c2 ?c3 ?c4)
   case c1=>exact (Row.new wr _ [_]).cell 0 rfl
   case c2=>simp;omega
   case c3=>have:=HO.o.size;simp;omega
   case c4=>
    intro v' w6 f6 o6 b6;have x2:Only kv.ownBlock.toList wr w6:=((Only.refl _ wr).alloc _).trans o6 (fun x hx=>.inl hx);have x6:∀ b,kv.ownBlock=some b->w.heap.size<=b/\b<wr.heap.size:=HK.o.own;have h6:=x2.row HQ.o (fun hx=>by
     cases z:kv.ownBlock with
     | none=>rw [z] at hx;simp at hx
     | some b=>rw [z] at hx;simp at hx;exact (HB.o b z).1 hx.symm)
    rcases f6.form with ⟨_,h9⟩|⟨g,cap,y6,_⟩
    ·simp at h9
    have z6:=h6.cell 0 rfl;have a8:=h6.free 0;have F6:=aA f6;have h0:=aA x2;have B6:=aA b6;have Q6:=aA h6;have y0:=aA x6;clear f6 o6 b6 x2 h6 x6;subst y6;go_wp2_with fail;have a4:=h0.o.size;have x3:∀ b,(Value.slice (some ⟨g,0,none⟩) (List.replicate i (-1:Int) ++ [-1]).length cap).ownBlock=some b->b≠q/\b≠c/\b≠l:=by
     intro b h3;rcases B6.o with h7|h7
     ·exact HB.o b (by rw [<-h7];exact h3)
     rw [h7] at h3;simp at h3;omega
    have h4:∀ x,x∈kv.ownBlock.toList->x≠c/\x≠l:=by
     intro x hx
     cases z:kv.ownBlock with
     | none=>rw [z] at hx;simp at hx
     | some b=>rw [z] at hx;simp at hx;subst hx;exact (HB.o _ z).2
    have d:=HR.o.ne;refine ⟨⟨i+1,_,by omega,by go_num,⟨T,Q6.o.set 0 _⟩,?_,x3,?_,?_,fun x hx=>?_,fun x hx=>?_,?_,by simp;omega,by simp;omega,by simp;omega⟩,by simp [intOf];omega⟩
    ·have h8:=F6.o;have x8:(List.replicate i (-1:Int) ++ [-1]).length=i+1:=by simp
     rw [x8] at h8;rw [show List.replicate (i+1) (-1:Int)=List.replicate i (-1) ++ [-1] from List.replicate_succ'];exact h8.only ((Only.refl [q] w6).set (p:=⟨q,0,none⟩) (by simp) _) (fun b h3=>by simpa using (x3 b h3).1)
    ·obtain ⟨T',cs,r⟩:=RC.o;exact ⟨T',cs,((h0.o.row r (fun hx=>(h4 _ hx).1 rfl))).other (by simpa using d.1) _⟩
    ·obtain ⟨T',cs,r⟩:=RL.o;exact ⟨T',cs,((h0.o.row r (fun hx=>(h4 _ hx).2 rfl))).other (by simpa using d.2.1) _⟩
    ·exact ((Only.refl [q] w6).set (by simp) _).cell (h0.o.cell (CC.o x hx) (fun h2=>(h4 _ h2).1 rfl)) (by simpa using d.1.symm)
    ·exact ((Only.refl [q] w6).set (by simp) _).cell (h0.o.cell (CL.o x hx) (fun h2=>(h4 _ h2).2 rfl)) (by simpa using d.2.1.symm)
    exact (HO.o.trans h0.o (fun x hx=>by
     cases z:kv.ownBlock with
     | none=>rw [z] at hx;simp at hx
     | some b=>rw [z] at hx;simp at hx;subst hx;exact .inr (y0.o _ z).1)).set (.inr HR.o.ge.1) _
  have y5:i=n:=by omega
  subst y5;go_wp2_with fail;rcases HK.o.form with ⟨_,h9⟩|⟨g,cap,h5,hg,a2,a1,y4⟩
  ·have:=congrArg List.length h9;simp at this;omega
  have x1:=HB.o g (by rw [h5];rfl);have d:=HR.o.ne;have x7:=HQ.o;rw [h5,List.length_replicate] at x7;refine hR.o _ _ ⟨q,g,c,l,rfl,⟨⟨T,cap,_,_,x7⟩,?_,RC.o,RL.o,fun x hx=>?_,fun x hx y hy=>?_,fun x hx y hy=>?_,⟨x1.1.symm,d.1,d.2.1,x1.2.1,x1.2.2,d.2.2⟩,h1,y9⟩,HO.o,HR.o.ge.1,hg,HR.o.ge.2.1,HR.o.ge.2.2⟩
  ·rcases HK.o.2 with ⟨e,_⟩|⟨g',a0,y1,e,_,hh,_⟩
   ·rw [h5] at e;cases e
   rw [h5] at e;simp only [Value.slice.injEq,Option.some.injEq,Addr.mk.injEq] at e;obtain ⟨⟨rfl,_⟩,_⟩:=e;exact ⟨_,y1.toList,by unfold Row;rw [hh]⟩
  ·have h2:x<i:=hx;have:=y4 x (by simp;exact h2);rw [this];simp [gI,h2,Pl.zero,Pg.zero]
  ·exact CC.o _ (by show _<i*16;have:x<i:=hx;omega)
  exact CL.o _ (by show _<i*16;have:x<i:=hx;omega)
