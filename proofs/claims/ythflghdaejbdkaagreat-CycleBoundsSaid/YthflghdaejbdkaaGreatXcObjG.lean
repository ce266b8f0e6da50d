/- Lemmas of this claim. -/
import Derived.Test.YthflghdaejbdkaaGreatXcObjD
import Derived.OwnWalk
namespace Go.Proofs.YthflghdaejbdkaaGreat
open _root_.Go.Proofs.Tryz (prog)
open Go.RowKit Go.Maps
set_option maxHeartbeats 3200000
set_option maxRecDepth 100000
set_option linter.unusedVariables false
def aAw (w:World) (v:Value) (l:List Bool):Prop:=
 (v=.slice none 0 0/\l=[])\/∃ y c,v=.slice (some y) l.length c/\∀ i,i<l.length->w.cell? (y.add i)=some (.bool (gB l i))
theorem aAw.only {w w':World} {v:Value} {l:List Bool} (h:aAw w v l) (ho:Only [] w w'):aAw w' v l:=by
 rcases h with h|⟨y,c,z,d⟩
 ·exact .inl h
 exact .inr ⟨y,c,z,fun i e=>ho.cell (d i e) (by simp)⟩
theorem aAw.len {w:World} {v:Value} {l:List Bool} (h:aAw w v l):∃ a c,v=.slice a l.length c:=by
 rcases h with ⟨y,z⟩|⟨d,c,y,z⟩
 ·exact ⟨none,0,by rw [y,z];rfl⟩
 exact ⟨_,_,y⟩
theorem aAY (w:World) (v:Value) (l:List Bool) (h:aAw w v l) (hl:l.length<=1000000) :
  Calls prog 165 #[v] w fun e w'=>∃ v',e=.returned v'/\Bls w' w.heap.size v' l/\Only [] w w':=by
 rcases h with ⟨rfl,rfl⟩|⟨ad,c,rfl,d⟩
 ·exact (aHX w).mono (fun e w' ⟨z,h2⟩=>⟨_,z,Bls.nil _ _,h2▸Only.refl _ _⟩)
 obtain ⟨n,y⟩:∃ n,n=l.length:=⟨_,rfl⟩;rw [<-y] at d hl ⊢;have hq:=fun (wx:World)=>Lib.run_eql_slice_nil (P:=prog) wx 50 4 (some ad) n c 0 0 Tryz.underlying50;have HL:=aA y;have HC:=aA d;clear y d;refine aF fun R hR=>?_;go_in;go_wp2_with (at_builtin;refine aBb rfl _ _ rfl w.heap.size _ _ rfl (Bls.made w) ad n c l rfl ?_ ?_ ?_ ?_ ?_)
 ·exact HL.out.symm
 ·intro j u hu;have hj:j<n:=by have:=(List.getElem?_eq_some_iff.1 hu).1;have:=HL.out;omega
  have z:=HC.out j hj;rw [((Only.refl [] w).alloc _).cell z (by simp),gB,hu];rfl
 ·simp;omega
 ·simp
 intro v w1 hv ho y h0;clear y;go_wp2;exact hR.out _ _ ⟨v,rfl,hv,((Only.refl _ _).alloc _).trans ho (fun x hx=>.inr (by simp [Value.ownBlock] at hx;omega))⟩
section
variable {L:Nat->Option Lb} {hb:Nat} {M:Hp} {X:HX}
theorem rC (w:World) (h:dK w L hb M X) (hk:M.Ok) (c:Int) (v:Value) (l:List Bool) (hv:aAw w v l) (hl:l.length<=1000000) :
  Calls prog 82 #[.pointer (some ⟨hb,0,none⟩),.int .i64 c,v] w (vY w L hb (.tuple #[.int .i64 (M.aH c l).1,.int .i64 (M.aH c l).2.1]) (M.aH c l).2.2):=by
 refine aF fun R hR=>?_;have h1:=jJ w h;have d:=aAY w v l hv hl;obtain ⟨a,cp,h5⟩:=hv.len;subst h5;obtain ⟨n,hn⟩:∃ n,n=l.length:=⟨_,rfl⟩;rw [<-hn] at d ⊢
 by_cases y:c<0\/10<=c\/7<l.length
 ·have hr:M.aH c l=(0,1,M):=by unfold Hp.aH;rw [if_pos y]
  rw [hr] at hR;have HD:=aA (vY.none (r:=.tuple #[.int .i64 0,.int .i64 1]) h (lN.refl w));rw [<-hn] at y
  by_cases b1:c<0
  ·clear h hr y d hv hn hk;go_in;go_wp2_with fail;refine h1.mono ?_;rintro e _ ⟨rfl,rfl⟩;go_wp2;exact hR.out _ _ HD.out
  by_cases b2:10<=c
  ·clear h hr y d hv hn hk;go_in;go_wp2_with fail;refine h1.mono ?_;rintro e _ ⟨rfl,rfl⟩;go_wp2;exact hR.out _ _ HD.out
  have b3:(7:Int)<n:=by omega
  clear h hr y d hv hn hk;go_in;go_wp2_with fail;refine h1.mono ?_;rintro e _ ⟨rfl,rfl⟩;go_wp2;exact hR.out _ _ HD.out
 have hr:M.aH c l=M.add (vI c l):=by unfold Hp.aH;rw [if_neg y]
 rw [hr] at hR;rw [<-hn] at y;have b1:¬ c<0:=by omega
 have b2:¬ 10<=c:=by omega
 have b3:¬ (7:Int)<n:=by omega
 have h4:Hid (vI c l).ok1:=⟨.inl ⟨rfl,by show 0<=c;omega,by show c<10;omega,by show (List.replicate l.length (0:Int)).length<=7;simp;omega⟩,by show l.length=(List.replicate l.length (0:Int)).length;simp⟩;have HH:=aA h;have HK:=aA hk;have HN:=aA hn;clear h hr y hv hn hk;go_in;go_wp2_with fail;refine h1.mono ?_;rintro e _ ⟨rfl,rfl⟩;go_wp2_with fail;refine d.mono ?_;rintro e w3 ⟨v3,rfl,h0,h3⟩;obtain ⟨a3,c3,h2⟩:=h0.len;rw [<-HN.out] at h2;subst h2;have z:=aLd (w0:=w) w3 HH.out HK.out h3 (vI c l) h4.out _ h0;rw [show (vI c l).kind=2 from rfl,show (vI c l).cls=c from rfl,show (vI c l).slots.length=n by rw [HN.out];show (List.replicate l.length (0:Int)).length=_;simp] at z;generalize M.add (vI c l)=r at z hR;obtain ⟨r1,r2,r3⟩:=r;clear h0 h3 d;go_wp2_with fail;refine z.mono ?_;rintro e w4 ⟨rfl,hd⟩;have HD:=aA hd;clear hd z;go_wp2;exact hR.out _ _ ⟨rfl,HD.out⟩
theorem vO (w:World) (h:dK w L hb M X) (hk:M.Ok) (k c n:Int) :
  Calls prog 120 #[.pointer (some ⟨hb,0,none⟩),.int .i64 k,.int .i64 c,.int .i64 n] w (vY w L hb (.tuple #[.int .i64 (M.aG k c n).1,.int .i64 (M.aG k c n).2.1]) (M.aG k c n).2.2):=by
 refine aF fun R hR=>?_;have h1:=jJ w h;have HD:=aA (vY.none (r:=.tuple #[.int .i64 0,.int .i64 1]) h (lN.refl w))
 by_cases z:n<0\/48<n
 ·have hr:M.aG k c n=(0,1,M):=by unfold Hp.aG;rw [if_pos z]
  rw [hr] at hR
  by_cases b1:n<0
  ·clear h hr z hk;go_in;go_wp2_with fail;refine h1.mono ?_;rintro e _ ⟨rfl,rfl⟩;go_wp2;exact hR.out _ _ HD.out
  have b2:48<n:=by omega
  clear h hr z hk;go_in;go_wp2_with fail;refine h1.mono ?_;rintro e _ ⟨rfl,rfl⟩;go_wp2;exact hR.out _ _ HD.out
 have b1:¬ n<0:=by omega
 have b2:¬ 48<n:=by omega
 by_cases y:(k=3/\c=0)\/(k=4/\0<=c/\c<10)
 ·have hr:M.aG k c n=M.add (qH k c n.toNat):=by unfold Hp.aG;rw [if_neg z,if_pos y]
  rw [hr] at hR;have h0:(qH k c n.toNat).slots.length=n.toNat:=by show (List.replicate n.toNat (0:Int)).length=_;simp
  have h4:(qH k c n.toNat).ok1:=by
   refine ⟨?_,by show (List.replicate n.toNat _).length=(List.replicate n.toNat (0:Int)).length;simp⟩;rcases y with ⟨rfl,rfl⟩|⟨rfl,h1,h2⟩
   ·refine .inr (.inl ⟨rfl,rfl,by rw [h0];omega,fun s=>?_⟩);show gB (List.replicate n.toNat (decide ((3:Int)=4))) s=false;unfold gB;rw [List.getElem?_replicate];split<;>rfl
   refine .inr (.inr ⟨rfl,h1,h2,by rw [h0];omega,fun s hs=>?_⟩);show gB (List.replicate n.toNat (decide ((4:Int)=4))) s=true;unfold gB;rw [List.getElem?_replicate,if_pos (by rw [<-h0];exact hs)];rfl
  have h3:¬ k=2:=by omega
  have h5:(qH k c n.toNat).kH=[]:=by unfold Th.kH;exact if_neg h3
  have d:=aLd (w0:=w) w h hk (Only.refl _ _) (qH k c n.toNat) h4 (.slice none 0 0) (by rw [h5];exact Bls.nil _ _);rw [show (qH k c n.toNat).kind=k from rfl,show (qH k c n.toNat).cls=c from rfl,h0,show ((n.toNat:Nat):Int)=n by omega] at d;generalize M.add (qH k c n.toNat)=r at d hR;obtain ⟨r1,r2,r3⟩:=r;rcases y with ⟨rfl,rfl⟩|⟨rfl,g1,g2⟩
  ·clear h hr z hk h4 h5 h0 h3;go_in;go_wp2_with fail;refine h1.mono ?_;rintro e _ ⟨rfl,rfl⟩;go_wp2_with fail;refine d.mono ?_;rintro e w4 ⟨rfl,hd⟩;have HD:=aA hd;clear hd d;go_wp2;exact hR.out _ _ ⟨rfl,HD.out⟩
  have g3:¬ c<0:=by omega
  have g4:¬ 10<=c:=by omega
  clear h hr z hk h4 h5 h0 h3;go_in;go_wp2_with fail;refine h1.mono ?_;rintro e _ ⟨rfl,rfl⟩;go_wp2_with fail;refine d.mono ?_;rintro e w4 ⟨rfl,hd⟩;have HD:=aA hd;clear hd d;go_wp2;exact hR.out _ _ ⟨rfl,HD.out⟩
 have hr:M.aG k c n=(0,1,M):=by unfold Hp.aG;rw [if_neg z,if_neg y]
 rw [hr] at hR;have vG:=aA y;clear h hr z hk y;go_in;go_wp2_with fail;refine h1.mono ?_;rintro e _ ⟨rfl,rfl⟩
 by_cases e3:k=3
 ·have e4:¬ c=0:=fun e=>vG.out (.inl ⟨e3,e⟩);subst e3;go_wp2;exact hR.out _ _ HD.out
 by_cases e4:k=4
 ·have e5:c<0\/10<=c:=by
   by_cases e6:c<0
   ·exact .inl e6
   by_cases e7:10<=c
   ·exact .inr e7
   exact absurd (.inr ⟨e4,by omega,by omega⟩) vG.out
  subst e4
  by_cases e6:c<0
  ·have e7:¬ 0<=c:=by omega
   clear e5 e6;go_wp2;exact hR.out _ _ HD.out
  have e7:0<=c:=by omega
  have e8:¬ c<10:=by omega
  clear e5 e6;go_wp2;exact hR.out _ _ HD.out
 go_wp2_with fail;exact hR.out _ _ HD.out
theorem aJW (w:World) (h:dK w L hb M X):Calls prog 63 #[.pointer (some ⟨hb,0,none⟩)] w fun e w'=>
   ∃ p' b',e=.returned (.pointer (some ⟨p',0,none⟩))/\dP w' p' b' M.P/\Only [] w w'/\w.heap.size<=p'/\w.heap.size<=b':=by
 refine aF fun R hR=>?_;have h1:=jJ w h;have h2:=wR w X.pp X.pb M.P h.pool;have h3:=h.cells.1;clear h;go_in;go_wp2_with fail;refine h1.mono ?_;rintro e _ ⟨rfl,rfl⟩;go_wp2_with fail;refine h2.mono ?_;rintro e w3 ⟨p',b',rfl,z,y,d,q2⟩;have HP:=aA (⟨z,y,d,q2⟩:dP w3 p' b' M.P/\Only [] w w3/\w.heap.size<=p'/\w.heap.size<=b');clear z y d q2;go_wp2;exact hR.out _ _ ⟨p',b',rfl,HP.out⟩
end
theorem aK.row {w:World} {base g n cap:Nat} {l:List Int} (h:aK w base (.slice (some ⟨g,0,none⟩) n cap) l):n=l.length/\base<=g/\∃ cs,Row w g 3 cs/\cs.length=cap/\cs.take l.length=l.map (.int .i64)/\l.length<=cap/\cap<=maxLen:=by
 rcases h.2 with ⟨e,_⟩|⟨g',d,y,z,hg,hh,hc,hm,hs,ht⟩
 ·simp at e
 simp only [Value.slice.injEq,Option.some.injEq,Addr.mk.injEq] at z;obtain ⟨⟨rfl,_⟩,hn,rfl⟩:=z;exact ⟨hn,hg,y.toList,by unfold Row;rw [hh],by simp [hs],by rw [<-ht,Nat.mul_one],hc,hm⟩
theorem aK.ofRow {w:World} {base g cap:Nat} {l:List Int} {cs:List Value} (hb:base<=g) (e:Row w g 3 cs) (z:cs.length=cap) (ht:cs.take l.length=l.map (.int .i64)) (y:l.length<=cap) (d:cap<=maxLen):aK w base (.slice (some ⟨g,0,none⟩) l.length cap) l:=by
 refine ⟨by simp,.inr ⟨g,cap,cs.toArray,rfl,hb,e,y,d,by simp [z],by simp;exact ht⟩⟩
theorem aK.setAt {w:World} {base g n cap:Nat} {l:List Int} (h:aK w base (.slice (some ⟨g,0,none⟩) n cap) l) (i:Nat) (y:Int):aK (w.setCell ⟨g,i,none⟩ (.int .i64 y)) base (.slice (some ⟨g,0,none⟩) n cap) (l.set i y):=by
 obtain ⟨rfl,hb,cs,hr,z,d,e,h4⟩:=h.row;have:=aK.ofRow (l:=l.set i y) hb (hr.set i (.int .i64 y)) (cap:=cap) (by simp [z]) (by rw [List.length_set,List.take_set,d,List.map_set]) (by simpa using e) h4;rwa [List.length_set] at this
section
variable {w w':World} {L:Nat->Option Lb} {hb:Nat} {M:Hp} {X:HX}
theorem dK.moved {P:Pl} {ob:Int->Option Th} (h:dK w L hb ⟨P,ob⟩ X) {k:Int} {o:Th} (ho:ob k=some o) {g n cap:Nat} (hv:X.bv k=.slice (some ⟨g,0,none⟩) n cap) (i:Nat) (y:Int) :
  dK (w.setCell ⟨g,i,none⟩ (.int .i64 y)) L hb ⟨P,dZ ob k (some (o.moved i y))⟩ X:=by
 have h0:L g=some (.bl k):=(h.th k o ho).Ll g (by rw [hv];rfl);have d:aI (fun j=>L j=some (.bl k)) w (w.setCell ⟨g,i,none⟩ (.int .i64 y)):=(aI.refl _ w).set (.inl h0) _;have z:∀ j ℓ,ℓ≠Lb.bl k->L j=some (.bl k)->L j≠some ℓ:=fun j ℓ h1 hk e=>by rw [hk] at e;cases e;exact h1 rfl
 refine ⟨fun k hk=>Nat.lt_of_lt_of_le (h.lt k hk) d.size,?_,h.Lm,h.pool.dA d (fun y=>z _ .pool (by simp) y h.Lpp) (fun y=>z _ .pages (by simp) y h.Lpb),h.Lpp,h.Lpb,?_,h.Lp,fun j o' hj=>?_⟩
 ·obtain ⟨T,hr⟩:=h.mem;exact ⟨T,d.row hr (fun y=>z _ .mem (by simp) y h.Lm)⟩
 ·refine (h.mp.only d (fun y=>z _ .map (by simp) y h.Lp)).congr (fun j=>?_);show (ob j).map _=(dZ ob k (some (o.moved i y)) j).map _;unfold dZ
  by_cases e:j=k
  ·rw [if_pos e,e,ho];rfl
  rw [if_neg e]
 rcases aW hj with ⟨rfl,rfl⟩|⟨e,h7⟩
 ·obtain ⟨⟨T,h1⟩,h2,h3,h4,h5,h6⟩:=h.th j o ho;refine ⟨⟨T,d.row h1 (fun x=>z _ (.th j) (by simp) x h2)⟩,h2,h3.dA d (fun g hgv x=>z g (.rb j) (by simp) x (h4 g hgv)),h4,?_,h6⟩;rw [hv] at h5 ⊢;exact h5.setAt i y
 exact (h.th j o' h7).only d (fun x hx=>⟨z x _ (by simp) hx,z x _ (by simp) hx,z x _ (by simp;omega) hx⟩)
theorem aFJ (y:M.P.move.2.2.1≠0):M.move=(0,M.P.move.2.2.1,M)/\M.P.move.2.2.2=M.P:=by
 refine ⟨by unfold Hp.move;rw [if_neg y],?_⟩
 cases z:M.P.pair with
 | none=>unfold Pl.move;rw [z]
 | some d=>
  refine absurd ?_ y;unfold Pl.move;rw [z]
theorem yK (e:M.P.move.2.2.1=0) (h:∀ k o,M.ob k=some o->¬ o.place M.P.move.1<o.blocks.length):M.move=(0,0,⟨M.P.move.2.2.2,M.ob⟩):=by
 unfold Hp.move;rw [if_pos e]
 by_cases z:M.owner M.P.move.1<192
 ·have:=(dQ (fun k=>M.owns M.P.move.1 ((k:Int)+1)) 192).2 z;obtain ⟨o,y,d⟩:=Hp.wI.1 this;exact absurd d (h _ o y)
 rw [decide_eq_false z];split
 ·rename_i y;cases y
 rfl
theorem tV (hk:M.Ok) (e:M.P.move.2.2.1=0) {k:Int} {o:Th} (y:M.ob k=some o) (h:o.place M.P.move.1<o.blocks.length):M.move=(k,0,Hp.fD M.P.move.2.2.2 M.ob k o (o.place M.P.move.1) M.P.move.2.1):=by
 obtain ⟨z,d⟩:=hk.aBz y h;unfold Hp.move;rw [if_pos e,d,y,decide_eq_true z]
theorem aKb (w:World) (h:dK w L hb M X) (hk:M.Ok) :
  Calls prog 309 #[.pointer (some ⟨hb,0,none⟩)] w (vY w L hb (.tuple #[.int .i64 M.move.1,.int .i64 M.move.2.1]) M.move.2.2):=by
 refine aF fun R hR=>?_;have h1:=jJ w h;have c0:=h.cells.1;have a3:=aMk w X.pp X.pb M.P h.pool;obtain ⟨fr,a1⟩:∃ z,z=M.P.move.1:=⟨_,rfl⟩;obtain ⟨to,a6⟩:∃ z,z=M.P.move.2.1:=⟨_,rfl⟩;obtain ⟨er,z9⟩:∃ z,z=M.P.move.2.2.1:=⟨_,rfl⟩;obtain ⟨Q,hQ⟩:∃ z,z=M.P.move.2.2.2:=⟨_,rfl⟩;rw [<-a1,<-a6,<-z9,<-hQ] at a3;have H:=aA h;have HK:=aA hk;have x6:=aA a1;have z7:=aA a6;have x5:=aA z9;have HQ:=aA hQ;clear h hk a1 a6 z9 hQ;go_in;go_wp2_with fail;refine h1.mono ?_;rintro e _ ⟨rfl,rfl⟩;clear h1;go_wp2_with fail;refine a3.mono ?_;rintro e w3 ⟨rfl,b6,a4⟩;have x4:=aA (H.out.gJ a4 b6 (ob':=M.ob) (fun _=>rfl) (fun k o' h2=>⟨o',h2,Th.Shape.refl _⟩));have y3:Hid (aI (fun k=>L k≠none) w w3):=a4.toP (fun y hy=>.inl (by simp at hy;rw [hy,H.out.Lpb];simp));clear a3 b6 a4 c0
 by_cases he:er=0
 ·subst he;obtain ⟨D0,y1,a9⟩:=x4.out.mp;have z0:vZ D0 (fun k=>(M.ob k).map fun _=>X.blk k):=a9;have HD:=aA z0
  have c1:=x4.out.cells.2.1;obtain ⟨mb,b5⟩:∃ m,m=X.mb:=⟨_,rfl⟩;rw [<-b5] at c1 y1;have a8:=aA y1;clear z0 a9 y1 b5;go_wp2_with (at_range;refine wpList_range_own _ rfl _ 173 rfl 3 172 jI Tryz.underlying173 dR mb 192 D0 rfl a8.out ?_;intro w0 z1 b3 d3);go_frame;have Q0:Only [] w3 w0:=(Only.refl [] w3).grown b3 (fun k hk=>by cases hk);clear c1;go_loopw [7] (fun _ wr=>∃ x2 cnt,wr.ranges prog 3 dR mb w3.heap.size 192 D0 x2 cnt/\Hid (∀ k o,wfI k->M.ob k=some o->x2 (.int .i64 k)=false->¬ o.place fr<o.blocks.length)/\Only [] w3 wr) (fun _ wr=>wr.rangeLeft mb w3.heap.size)
  case atStart=>
   refine ⟨_,_,z1,fun k o hk h3 h4=>?_,Q0⟩;rw [(HD.out k hk).1] at h4;simp [h3] at h4
  case round=>
   clear z1 b3 d3 Q0;obtain ⟨x2,cnt,b8,HF,hO⟩:=hrel;have z6:=aA b8;have HO:=aA hO;clear b8 hO;go_wp2_with (at_next;refine iF rfl _ rfl mb w3.heap.size 192 D0 x2 cnt _ HD.out rfl z6.out ?_ ?_)
   ·intro _ b4;have HM:Hid (True->M.move=(0,0,⟨M.P.move.2.2.2,M.ob⟩)):=fun _=>yK x5.out.symm (fun k o ho=>by
     rw [<-x6.out];have:=HK.out.hr k o ho;exact HF.out k o (dL (by omega)) ho (b4 _))
    clear b4;go_wp2_with fail;refine hR.out _ _ ?_;rw [HM.out trivial];refine ⟨rfl,L,X,?_,fun k hk=>.inl hk,(y3.out.trans (HO.out.xA (S:=fun _=>False)) (fun x hx=>hx.elim))⟩;show dK _ L hb ⟨M.P.move.2.2.2,M.ob⟩ X;rw [<-HQ.out];exact x4.out.aN HO.out
   intro k c w1 y9 y0 a2 t ht hc x3 y7 y6 a5 d2;have y5:Hid (Only [] w3 w1):=HO.out.grown y6 (fun j hj=>by cases hj;exact .inr (Nat.le_refl _));have h0:=x4.out.aN y5.out;have h6:=h0.th k t ht;obtain ⟨b2,d1,_⟩:=HK.out.aAu ht;obtain ⟨g,cap,eb,x9⟩:=h6.bl.cellsOf b2;have c4:=h6.cells.2.2.2.2;rw [hc,eb] at c4;have h5:=yU w1 (X.bv k) t.blocks h6.bl.read (by omega) fr;rw [eb] at h5;obtain ⟨nb,h8⟩:∃ n,n=t.blocks.length:=⟨_,rfl⟩;rw [<-h8] at c4 h5 x9 b2 d1 eb;have c2:=aA h8;have c6:y9<wr.rangeLeft mb w3.heap.size:=by rw [z6.out.left_eq];exact y7
   have z5:=aA x3;have c5:Hid (wfI k):=y0;have HT:=aA ht;have c7:=aA h0;have b9:=aA eb;have HC:=aA hc;have kF:Hid (¬ t.place fr<t.blocks.length->∀ j o,wfI j->M.ob j=some o->(x2 (.int .i64 j) && !(Lit.int .i64 j).sameKey (.int .i64 k))=false->¬ o.place fr<o.blocks.length):=fun e0 j o hj e1 e2=>by
    by_cases e:j=k
    ·subst e;rw [ht] at e1;cases e1;exact e0
    refine HF.out j o hj e1 ?_;rw [aLS j k y0] at e2;simp [e] at e2;exact e2
   by_cases x1:t.place fr<t.blocks.length
   ·have hi:idx (fun i=>gI t.blocks i == fr) nb=((t.place fr:Nat):Int):=by rw [h8];exact kT x1
    rw [hi] at h5;obtain ⟨d,x8⟩:∃ z,z=t.place fr:=⟨_,rfl⟩;rw [<-x8] at h5;have c8:d<nb:=by rw [x8,h8];exact x1
    have d7:(0:Int)<=d:=by omega
    have e3:(d:Int)<nb:=by omega
    have z3:Hid (True->M.move=(k,0,Hp.fD M.P.move.2.2.2 M.ob k t (t.place M.P.move.1) M.P.move.2.1)):=fun _=>tV HK.out x5.out.symm ht (by rw [<-x6.out];exact x1);have x7:=aA x8;have cp:=x9 d c8;have fg:∀ i,w1.frozen? ⟨g,i,none⟩=false:=fun i=>by
     have:=h6.bl;rw [eb] at this;obtain ⟨_,_,cs,hr,_⟩:=this.row;exact hr.free i
    have c9:=fg d;have mJ:Hid (dK (w1.setCell ⟨g,d,none⟩ (.int .i64 to)) L hb ⟨Q,dZ M.ob k (some (t.moved d to))⟩ X):=h0.moved ht eb d to;have y2:Hid (L g=some (.bl k)):=h6.Ll g (by rw [eb];rfl);have z2:Hid (L c=some (.th k)):=by have:=h6.Lth;rw [hc] at this;exact this
    have z4:Hid (aI (fun j=>L j≠none) w (w1.setCell ⟨g,d,none⟩ (.int .i64 to))):=(y3.out.trans (y5.out.xA (S:=fun _=>False)) (fun x hx=>hx.elim)).set (.inl (by show L g≠none;rw [y2.out];simp)) _
    by_cases hz:d=0
    ·subst hz;have y4:Hid (True->Hp.fD M.P.move.2.2.2 M.ob k t (t.place M.P.move.1) M.P.move.2.1=⟨Q,dZ M.ob k (some (t.moved 0 to))⟩):=fun _=>by
      unfold Hp.fD;rw [<-x6.out,<-x7.out,if_pos rfl,<-HQ.out,<-z7.out]
     clear hi x1 x3 a2 y7 y6 a5 hc h0 h6 y0 ht h8 eb x8 x9 fg;go_wp2_with fail;refine h5.mono ?_;rintro e _ ⟨rfl,rfl⟩;go_wp2_with fail;refine hR.out _ _ ?_;rw [z3.out trivial,y4.out trivial];exact ⟨rfl,L,X,mJ.out,fun k hk=>.inl hk,z4.out⟩
    have e7:(0:Int)<d:=by omega
    have h7:(w1.setCell ⟨g,d,none⟩ (.int .i64 to)).cell? ⟨g,0,none⟩=some (.int .i64 (gI t.blocks 0)):=by
     rw [World.cell?_setCell_other _ _ _ _ (by intro e;have:=congrArg Addr.off e;simp only at this;omega)];exact x9 0 (by omega)
    have b7:=HK.out.wU ht (m:=0) (by omega);obtain ⟨a0,z8⟩:∃ z,z=gI t.blocks 0:=⟨_,rfl⟩;rw [<-z8] at h7 b7;have a7:=aA z8;obtain ⟨d9,d8⟩:=b7;have e4:(d:Int)<=7:=by omega
    have y4:Hid (True->Hp.fD M.P.move.2.2.2 M.ob k t (t.place M.P.move.1) M.P.move.2.1=⟨(Q.setCell (a0+(d:Int)) to).2,dZ M.ob k (some (t.moved d to))⟩):=fun _=>by
     unfold Hp.fD;rw [<-x6.out,<-x7.out,if_neg hz,<-HQ.out,<-z7.out,<-a7.out]
    clear hi x1 x3 a2 y7 y6 a5 hc h0 h6 y0 ht h8 eb x8 x9 fg z8;go_wp2_with fail;refine h5.mono ?_;rintro e _ ⟨rfl,rfl⟩;go_wp2_with fail;have b1:(w1.setCell ⟨g,d,none⟩ (.int .i64 to)).cell? ⟨c,4,none⟩=some (.slice (some ⟨g,0,none⟩) nb cap):=by
     rw [World.cell?_setCell_other _ _ _ _ (by simp;rintro rfl;have:=z2.out;rw [y2.out] at this;cases this)]
     exact c4
    have e5:0<nb:=by omega
    have e6:(0:Int)<(nb:Int):=by omega
    clear c4 cp h5 c9 d2 z5 z6 HO HF kF;generalize d5:w1.setCell ⟨g,d,none⟩ (.int .i64 to)=w2 at*;clear d5;have d0:w2.drew.cell? ⟨hb,0,none⟩=some (.pointer (some ⟨X.pp,0,none⟩)):=mJ.out.cells.1;have d4:w2.drew.cell? ⟨c,4,none⟩=some (.slice (some ⟨g,0,none⟩) nb cap):=b1;have dg:w2.drew.cell? ⟨g,0,none⟩=some (.int .i64 a0):=h7;have c3:=aA (iP w2.drew X.pp X.pb Q mJ.out.drew.pool (a0+(d:Int)) to);have n0:hb∉[X.pb]:=by simp;rintro rfl;have:=mJ.out.Lm;rw [mJ.out.Lpb] at this;cases this
    have n4:c∉[X.pb]:=by simp;rintro rfl;have:=z2.out;rw [mJ.out.Lpb] at this;cases this
    have ng:g∉[X.pb]:=by simp;rintro rfl;have:=y2.out;rw [mJ.out.Lpb] at this;cases this
    have b0:Hid (∀ w5,dP w5 X.pp X.pb (Q.setCell (a0+(d:Int)) to).2->Only [X.pb] w2.drew w5->vY w L hb (.tuple #[.int .i64 M.move.1,.int .i64 M.move.2.1]) M.move.2.2 (.returned (.tuple #[.int .i64 k,.int .i64 0])) w5):=fun w5 y8 h9=>by
     rw [z3.out trivial,y4.out trivial];exact ⟨rfl,L,X,mJ.out.drew.gJ h9 y8 (fun _=>rfl) (fun k o' h2=>⟨o',h2,Th.Shape.refl _⟩),fun k hk=>.inl hk,
      z4.out.drew.trans (h9.toP (S:=fun j=>L j≠none) (fun y hy=>.inl (by simp at hy;rw [hy,mJ.out.Lpb];simp))) (fun x hx=>.inl hx)⟩
    have d6:IntKind.i64.wrap (a0+(d:Int))=a0+(d:Int):=IntWalk.i64_in _ (by omega);clear h7 b1 z3 y4 mJ z4 x7 b9 HT HC x6 z7 HQ x5 a7 y2 z2 c5 c7 c2 y5 x4 y3 HD a8 H HK;generalize X.pp=pp at*;generalize X.pb=pb at*;generalize (Q.setCell (a0+(d:Int)) to)=qs at*;obtain ⟨e8,e9⟩:=qs;go_region_held3 (fun w'=>w'.cell? ⟨hb,0,none⟩=some (.pointer (some ⟨pp,0,none⟩))/\w'.cell? ⟨c,4,none⟩=some (.slice (some ⟨g,0,none⟩) nb cap)/\w'.cell? ⟨g,0,none⟩=some (.int .i64 a0))
     (first|(exact ⟨d0,d4,dg⟩)|(exact ⟨h9.cell d0 n0,h9.cell d4 n4,h9.cell dg ng⟩))
     (first
      | (go_at_call 199;refine c3.out.mono ?_;rintro e w5 ⟨rfl,y8,h9⟩))
    have HE:=aA (b0.out w5 y8 h9);clear y8 h9 b0;go_wp2;exact hR.out _ _ HE.out
   have hi:idx (fun i=>gI t.blocks i == fr) nb = -1:=by rw [h8];exact rM x1
   rw [hi] at h5;have x7:=aA x1;clear hi x1 x3 a2 y7 y6 a5 hc h0 h6 y0 ht h8 eb;go_wp2_with fail;refine h5.mono ?_;rintro e _ ⟨rfl,rfl⟩;go_wp2;exact ⟨⟨_,y9,z5.out,kF.out x7.out,y5.out⟩,by rw [z5.out.left_eq];exact c6⟩
 have HM:Hid (True->M.move=(0,M.P.move.2.2.1,M)/\M.P.move.2.2.2=M.P):=fun _=>aFJ (by rw [<-x5.out];exact he);go_wp2_with fail;refine hR.out _ _ ?_;obtain ⟨e1,e2⟩:=HM.out trivial;rw [e1,<-x5.out];refine ⟨rfl,L,X,?_,fun k hk=>.inl hk,y3.out⟩;have:=x4.out;rw [HQ.out,e2] at this;exact this
end
theorem Bls.aQG {w:World} {base:Nat} {v:Value} {l:List Bool} (h:Bls w base v l):aAw w v l:=by
 rcases h.form with h|⟨g,cap,y,_,_,_,z⟩
 ·exact .inl h
 exact .inr ⟨_,cap,y,fun i d=>by rw [dI,Nat.zero_add];exact z i d⟩
section
variable {w w':World} {L:Nat->Option Lb} {hb:Nat} {M:Hp} {X:HX}
theorem dK.start {p b y T:Nat} {P:Pl} {v:Nat} (hp:dP w' p b P) (hr:Row w' hb T [.pointer (some ⟨p,0,none⟩),.map (some y)]) (hm:dO w' y 0 (fun _=>none))
  (h1:v<=p) (h2:v<=b) (h3:v<=y) (h4:v<=hb) (d1:p≠y) (d2:p≠hb) (d3:b≠y) (d4:b≠hb) (d5:y≠hb) :
  ∃ e X',dK w' e hb ⟨P,fun _=>none⟩ X'/\(∀ k,e k≠none->v<=k)/\X'.mb=y/\X'.pp=p:=by
 have h5:=hp.ne;obtain ⟨_,_,_,_,f1,f2⟩:=hp.facts;obtain ⟨e,z⟩:∃ e:Nat->Option Lb,e=fun j=>if j=hb then some .mem else if j=y then some .map else if j=p then some .pool else if j=b then some .pages else none:=⟨_,rfl⟩;have h0:∀ k,e k≠none->k=hb\/k=y\/k=p\/k=b:=fun k d=>by
  rw [z] at d;simp only at d
  by_cases e1:k=hb
  ·exact .inl e1
  by_cases e2:k=y
  ·exact .inr (.inl e2)
  by_cases e3:k=p
  ·exact .inr (.inr (.inl e3))
  by_cases e4:k=b
  ·exact .inr (.inr (.inr e4))
  simp [e1,e2,e3,e4] at d
 have h6:=hr.lt;have h7:=hm.lt;refine ⟨e,⟨p,b,y,fun _=>0,fun _=>.slice none 0 0,fun _=>.slice none 0 0⟩,⟨fun k d=>?_,⟨T,hr⟩,by rw [z];simp,hp,by rw [z];simp [d1,d2],by rw [z];simp [d3,d4,Ne.symm h5],(hm.mono (Nat.zero_le _)).congr (fun _=>rfl),by rw [z];simp [d5],fun k o d=>by cases d⟩,fun k d=>?_,rfl,rfl⟩
 ·rcases h0 k d with rfl|rfl|rfl|rfl<;>assumption
 rcases h0 k d with rfl|rfl|rfl|rfl<;>assumption
theorem dK.aRJ {P:Pl} {ob:Int->Option Th} (h:dK w L hb ⟨P,ob⟩ X) {k:Int} {b:Nat} {rv bv:Value} {t:Th} (hg:aI (fun j=>L j=some .map) w w') (x1:dO w' X.mb 192 (fun j=>if j=k then some b else (ob j).map fun _=>X.blk j))
  (h7:w.heap.size<=b) (h8:b<w'.heap.size) (hr:∃ T,Row w' b T (aAh t rv bv)) (h5:Bls w' w.heap.size rv t.kH) (h4:aK w' w.heap.size bv t.blocks)
  (d1:∀ g,rv.ownBlock=some g->g≠b) (d2:∀ g,bv.ownBlock=some g->g≠b/\rv.ownBlock≠some g) :
  ∃ L' X',dK w' L' hb ⟨P,dZ ob k (some t)⟩ X'/\(∀ j,L' j≠none->L j≠none\/w.heap.size<=j)/\X'.mb=X.mb:=by
 obtain ⟨L',h0⟩:∃ L':Nat->Option Lb,L'=fun j=>if j=b then some (.th k) else if rv.ownBlock=some j then some (.rb k) else if bv.ownBlock=some j then some (.bl k) else L j:=⟨_,rfl⟩;have z:∀ j,L j≠none->L' j=L j:=fun j hj=>by
  rw [h0];have:=h.lt j hj;simp only;rw [if_neg (by omega),if_neg (fun e=>by have:=(h5.own j e).1;omega),if_neg (fun e=>by have:=(h4.own j e).1;omega)]
 have h3:∀ j,L' j≠none->L j≠none\/(w.heap.size<=j/\j<w'.heap.size):=fun j hj=>by
  rw [h0] at hj;simp only at hj
  by_cases e:j=b
  ·rw [e];exact .inr ⟨h7,h8⟩
  rw [if_neg e] at hj
  by_cases e2:rv.ownBlock=some j
  ·exact .inr (h5.own j e2)
  rw [if_neg e2] at hj
  by_cases e3:bv.ownBlock=some j
  ·exact .inr (h4.own j e3)
  rw [if_neg e3] at hj;exact .inl hj
 have d:∀ j ℓ,ℓ≠Lb.map->L j=some .map->L j≠some ℓ:=fun j ℓ h1 hj e=>by rw [hj] at e;cases e;exact h1 rfl
 refine ⟨L',{ X with blk:=fun j=>if j=k then b else X.blk j,rv:=fun j=>if j=k then rv else X.rv j,bv:=fun j=>if j=k then bv else X.bv j },⟨fun j hj=>?_,?_,rG z h.Lm,h.pool.dA hg (fun y=>d _ .pool (by simp) y h.Lpp) (fun y=>d _ .pages (by simp) y h.Lpb),rG z h.Lpp,rG z h.Lpb,?_,rG z h.Lp,fun j u hj=>?_⟩,fun j hj=>(h3 j hj).imp id (fun e=>e.1),rfl⟩
 ·rcases h3 j hj with e|e
  ·exact Nat.lt_of_lt_of_le (h.lt j e) hg.size
  exact e.2
 ·obtain ⟨T,h6⟩:=h.mem;exact ⟨T,hg.row h6 (fun x=>d hb .mem (by simp) x h.Lm)⟩
 ·refine x1.congr (fun j=>?_);show _=(dZ ob k (some t) j).map fun _=>if j=k then b else X.blk j
  by_cases e:j=k
  ·rw [e,aY,if_pos rfl,if_pos rfl];rfl
  rw [bD _ _ e,if_neg e,if_neg e]
 show aEa w' L' j (if j=k then b else X.blk j) (if j=k then rv else X.rv j) (if j=k then bv else X.bv j) u;rcases aW hj with ⟨rfl,rfl⟩|⟨e,h9⟩
 ·rw [if_pos rfl,if_pos rfl,if_pos rfl];refine ⟨hr,by rw [h0];simp,h5.base (Nat.zero_le _),fun g h2=>?_,h4.base (Nat.zero_le _),fun g h2=>?_⟩
  ·rw [h0];simp [d1 g h2,h2]
  obtain ⟨a1,a2⟩:=d2 g h2;rw [h0];simp [a1,a2,h2]
 rw [if_neg e,if_neg e,if_neg e];exact ((h.th j u h9).only hg (fun x hx=>⟨d x _ (by simp) hx,d x _ (by simp) hx,d x _ (by simp) hx⟩)).lab z
end
theorem aMB (w:World) (n:Int) (h:n<1\/24<n):Calls prog 81 #[.int .i64 n] w (aO w (.tuple #[.pointer none,.int .i64 1])):=by
 refine aF fun R z=>?_;have y:=aOB w n h;clear h;go_in;go_wp2_with fail;refine y.mono ?_;rintro e _ ⟨rfl,rfl⟩;go_wp2;exact z.out _ _ ⟨rfl,rfl⟩
theorem aDg (w:World) (n:Nat) (h1:1<=n) (h0:n<=24):Calls prog 81 #[.int .i64 n] w fun e w'=>
  ∃ hb L X,e=.returned (.tuple #[.pointer (some ⟨hb,0,none⟩),.int .i64 0])/\dK w' L hb (Hp.new n) X/\(∀ k,L k≠none->w.heap.size<=k)/\Only [] w w':=by
 refine aF fun R hR=>?_;have h2:=aOA w n h1 h0;have h7:=@run_makeMap prog;clear h1 h0;go_in;go_wp2_with fail;refine h2.mono ?_;rintro e y ⟨p,b,rfl,hp,ho,h4,h3⟩;obtain ⟨_,_,_,_,f1,f2⟩:=hp.facts;have h5:dP ((y.alloc (.map #[] 0)).alloc (.cells #[.pointer (some ⟨p,0,none⟩),.map (some y.heap.size)] 175)) p b (Pl.zero n):=hp.only (((Only.refl [] y).alloc _).alloc _) (by simp) (by simp);have d:Row ((y.alloc (.map #[] 0)).alloc (.cells #[.pointer (some ⟨p,0,none⟩),.map (some y.heap.size)] 175)) (y.heap.size+1) 175 [.pointer (some ⟨p,0,none⟩),.map (some y.heap.size)]:=by
  have:=Row.new (y.alloc (.map #[] 0)) 175 [.pointer (some ⟨p,0,none⟩),.map (some y.heap.size)];rwa [World.size_alloc] at this
 have z:dO ((y.alloc (.map #[] 0)).alloc (.cells #[.pointer (some ⟨p,0,none⟩),.map (some y.heap.size)] 175)) y.heap.size 0 (fun _=>none):=(dO.made y).only ((aI.refl (fun _=>False) _).alloc _) (fun x=>x);have hO:Only [] w ((y.alloc (.map #[] 0)).alloc (.cells #[.pointer (some ⟨p,0,none⟩),.map (some y.heap.size)] 175)):=(ho.alloc _).alloc _;have h6:=ho.size;obtain ⟨L1,X1,q1,q2,_⟩:=dK.start (v:=w.heap.size) h5 d z h4 h3 (by omega) (by omega) (by omega) (by omega) (by omega) (by omega) (by omega);have Q1:=aA q1;have Q2:=aA q2;have QO:=aA hO;clear h2 hp h5 d z hO q1 q2 h4 h3 f1 f2 h6 ho;go_wp2;exact hR.out _ _ ⟨_,L1,X1,rfl,Q1.out,Q2.out,QO.out⟩
def sS (ob:Int->Option Th) (y:Lit->Bool) (k:Int):Option Th:=if y (.int .i64 k) then none else ob k
theorem aJw (w:World):Only [] w w.drew:=(Only.refl [] w).drew
theorem Only.aQ {w0 wl:World} (h:Only [] w0 wl) {a:Addr} {v:Value} (y:w0.cell? a=some v):wl.cell? a=some v:=h.cell y (by simp)
theorem oW (w:World) (v:Value) (l:List Int) (h:aK w 0 v l) (hl:l.length<=1000000) :
  Calls prog 80 #[v] w fun e w'=>∃ y,e=.returned y/\aK w' w.heap.size y l/\Only [] w w':=by
 rcases h.form with ⟨rfl,rfl⟩|⟨g,cap,rfl,_,hg,_,z⟩
 ·refine (aIw w).mono ?_;rintro e _ ⟨rfl,rfl⟩;exact ⟨_,rfl,aK.nil _ _,Only.refl _ _⟩
 refine (aAX w g l.length cap l rfl (by omega) z).mono ?_;rintro e w1 ⟨y,rfl,hv,d,_⟩;exact ⟨y,rfl,hv,d⟩
section
variable {L:Nat->Option Lb} {hb:Nat} {M:Hp} {X:HX}
theorem aDi (w:World) (h:dK w L hb M X) (hk:M.Ok):Calls prog 128 #[.pointer (some ⟨hb,0,none⟩)] w fun e w'=>
  ∃ q L' X',e=.returned (.pointer (some ⟨q,0,none⟩))/\dK w' L' q M X'/\(∀ k,L' k≠none->w.heap.size<=k)/\Only [] w w':=by
 refine aF fun R hR=>?_;have h1:=jJ w h;have c0:=h.cells.1;have e2:=wR w X.pp X.pb M.P h.pool;have j4:=@run_makeMap prog;have H:=aA h;have HK:=aA hk;clear h hk;go_in;go_wp2_with fail;refine h1.mono ?_;rintro e _ ⟨rfl,rfl⟩;clear h1;go_wp2_with fail;refine e2.mono ?_;rintro e w3 ⟨p,b,rfl,hp,ho,f0,e1⟩;obtain ⟨_,_,_,_,f1,f2⟩:=hp.facts;have f3:dP ((w3.alloc (.map #[] 0)).alloc (.cells #[.pointer (some ⟨p,0,none⟩),.map (some w3.heap.size)] 175)) p b M.P:=hp.only (((Only.refl [] w3).alloc _).alloc _) (by simp) (by simp);have d:Row ((w3.alloc (.map #[] 0)).alloc (.cells #[.pointer (some ⟨p,0,none⟩),.map (some w3.heap.size)] 175)) (w3.heap.size+1) 175 [.pointer (some ⟨p,0,none⟩),.map (some w3.heap.size)]:=by
  have:=Row.new (w3.alloc (.map #[] 0)) 175 [.pointer (some ⟨p,0,none⟩),.map (some w3.heap.size)];rwa [World.size_alloc] at this
 have z4:dO ((w3.alloc (.map #[] 0)).alloc (.cells #[.pointer (some ⟨p,0,none⟩),.map (some w3.heap.size)] 175)) w3.heap.size 0 (fun _=>none):=(dO.made w3).only ((aI.refl (fun _=>False) _).alloc _) (fun x=>x);have hO:Only [] w ((w3.alloc (.map #[] 0)).alloc (.cells #[.pointer (some ⟨p,0,none⟩),.map (some w3.heap.size)] 175)):=(ho.alloc _).alloc _;have j7:=ho.size;obtain ⟨L1,X1,q1,q2,q3⟩:=dK.start (v:=w.heap.size) f3 d z4 f0 e1 (by omega) (by omega) (by omega) (by omega) (by omega) (by omega) (by omega);have z5:=aA q1;have x3:=aA q2;have HO:=aA hO;obtain ⟨D0,y7,d3⟩:=(H.out.aN HO.out).mp;have z3:vZ D0 (fun k=>(M.ob k).map fun _=>X.blk k):=d3;have HD:=aA z3
 have c7:=aA H.out.mp;have d1:Hid (X.mb<w.heap.size):=H.out.mp.lt;have m6:=(H.out.aN HO.out).cells.2.1;obtain ⟨mb,e7⟩:∃ m,m=X.mb:=⟨_,rfl⟩;rw [<-e7] at m6 y7 d1 c7;have d2:=aA y7;clear e2 hp f3 d z4 hO q1 q2 q3 f0 e1 f1 f2 j7 ho c0 z3 d3 y7 e7;go_wp2_with (at_range;generalize ((w3.alloc (.map #[] 0)).alloc (.cells #[.pointer (some ⟨p,0,none⟩),.map (some w3.heap.size)] 175))=wq at*;generalize w3.heap.size+1=q at*;refine wpList_range_own _ rfl _ 173 rfl 3 172 jI Tryz.underlying173 dR mb 192 D0 rfl d2.out ?_;intro w4 y8 a8 j5);go_frame;obtain ⟨ri,b9⟩:∃ r,r=wq.heap.size:=⟨_,rfl⟩;rw [<-b9] at y8 ⊢;have i0:Hid (w.heap.size<=ri):=by show _<=_;rw [b9];exact HO.out.size
 have x5:Hid (L1 ri=none):=by
  show _=_
  cases e:L1 ri with
  | none=>rfl
  | some ℓ=>have:=z5.out.lt ri (by rw [e];simp);omega
 have c9:Hid (dK w4 L1 q ⟨M.P,fun _=>none⟩ X1):=z5.out.only (S:=fun _=>False) ((aI.refl _ wq).grown a8 (fun k hk=>by cases hk)) (fun _ x=>x.elim);have c8:Hid (Only [] w w4):=HO.out.grown a8 (fun k hk=>by cases hk);clear b9 a8 j5 m6 j4;go_loopw [6] (fun _ wr=>∃ h0 cnt L1 X1,wr.ranges prog 3 dR mb ri 192 D0 h0 cnt/\dK wr L1 q ⟨M.P,sS M.ob h0⟩ X1/\Hid (∀ j,L1 j≠none->w.heap.size<=j)/\Hid (L1 ri=none)/\Only [] w wr) (fun _ wr=>wr.rangeLeft mb ri)
 case atStart=>
  refine ⟨_,_,L1,X1,y8,?_,x3,x5,c8.out⟩;have e:sS M.ob (Maps.has D0)=fun _=>none:=by
   funext k;unfold sS
   cases ho:M.ob k with
   | none=>simp
   | some t=>
    have h1:=HK.out.hr k t ho;have:=(HD.out k (dL (k:=k) (by omega))).1;simp only [ho] at this;rw [if_pos (by rw [this];rfl)]
  rw [e];exact c9.out
 case round=>
  clear y8 c9 c8 x5 x3 z5 HO L1 X1 d2;obtain ⟨h0,cnt,L1,X1,f4,hP,x3,x5,hO⟩:=hrel;have d0:=aA f4;have HP:=aA hP;have HO:=aA hO;clear f4 hP hO;go_wp2_with (at_next;refine iF rfl _ rfl mb ri 192 D0 h0 cnt _ HD.out rfl d0.out ?_ ?_)
  ·intro _ e5;have g4:=aA e5;clear e5;go_wp2_with fail;refine hR.out _ _ ⟨q,L1,X1,rfl,?_,x3.out,HO.out⟩;have e:(⟨M.P,sS M.ob h0⟩:Hp)=M:=by
    have:sS M.ob h0=M.ob:=by
     funext k;unfold sS;rw [if_neg (by rw [g4.out];simp)]
    rw [this]
   rw [<-e];exact HP.out
  intro k c w5 a5 f7 j3 t ht hc a2 e6 a9 j6 j2;have O5:aI (·=ri) wr w5:=(aI.refl _ wr).grown a9 (fun j hj=>by cases hj;exact .inl rfl);have z9:Only [] w w5:=HO.out.grown a9 (fun j hj=>by cases hj;exact .inr i0.out);have P5:dK w5 L1 q ⟨M.P,sS M.ob h0⟩ X1:=HP.out.only O5 (fun x hx=>by rw [hx];exact x5.out);obtain ⟨⟨T,d⟩,_,b8,_,a6,_⟩:=(H.out.aN z9).th k t ht;have d:Row w5 c T (aAh t (X.rv k) (X.bv k)):=by rw [<-hc];exact d
  have c0:w5.cell? ⟨c,0,none⟩=_:=d.cell 0 rfl;have c1:w5.cell? ⟨c,1,none⟩=_:=d.cell 1 rfl;have c2:w5.cell? ⟨c,2,none⟩=_:=d.cell 2 rfl;have c3:w5.cell? ⟨c,3,none⟩=_:=d.cell 3 rfl;have c4:w5.cell? ⟨c,4,none⟩=_:=d.cell 4 rfl;obtain ⟨a3,b3,z1⟩:=b8.len;obtain ⟨a4,b4,z2⟩:=a6.len;obtain ⟨n3,b6⟩:∃ z,z=t.kH.length:=⟨_,rfl⟩;obtain ⟨n4,b7⟩:∃ z,z=t.blocks.length:=⟨_,rfl⟩;obtain ⟨kd,b2⟩:∃ z,z=t.kind:=⟨_,rfl⟩;obtain ⟨cl,a7⟩:∃ z,z=t.cls:=⟨_,rfl⟩;obtain ⟨ln,b5⟩:∃ z,z=t.slots.length:=⟨_,rfl⟩;rw [<-b6] at z1;rw [<-b7] at z2;rw [z1] at c3;rw [z2] at c4;rw [<-b2] at c0;rw [<-a7] at c1;rw [<-b5] at c2;have i5:a5<wr.rangeLeft mb ri:=by rw [d0.out.left_eq];exact e6
  have x8:=aA P5;have x2:=aA z9;have z6:Hid (wfI k):=f7;have HT:=aA ht;have j0:=aA a2;have i9:Hid (ri<w5.heap.size):=a2.lt;have HC:=aA hc;have g9:=aA b8;have f9:=aA a6;have i1:=aA z1;have i2:=aA z2;have j9:=aA b6;have k1:=aA b7;have g3:=aA b2;have g2:=aA a7;have g5:=aA b5;clear O5 z9 P5 d b8 a6 f7 ht hc a2 j3 e6 a9 j6 z1 z2 b6 b7 b2 a7 b5;go_wp2_with fail;have a0:Row (w5.alloc (.cells #[.int .i64 kd,.int .i64 cl,.int .i64 ln,.slice a3 n3 b3,.slice a4 n4 b4] 184)) w5.heap.size 184 [.int .i64 kd,.int .i64 cl,.int .i64 ln,.slice a3 n3 b3,.slice a4 n4 b4]:=Row.new w5 _ [_,_,_,_,_];have y0:Hid (Only [] w5 (w5.alloc (.cells #[.int .i64 kd,.int .i64 cl,.int .i64 ln,.slice a3 n3 b3,.slice a4 n4 b4] 184))):=(Only.refl [] w5).alloc _;have z0:(w5.alloc (.cells #[.int .i64 kd,.int .i64 cl,.int .i64 ln,.slice a3 n3 b3,.slice a4 n4 b4] 184)).heap.size=w5.heap.size+1:=by simp
  have e0:c<w5.heap.size:=World.block_lt_of_cell? w5 _ c3;generalize (w5.alloc (.cells #[.int .i64 kd,.int .i64 cl,.int .i64 ln,.slice a3 n3 b3,.slice a4 n4 b4] 184))=w6 at*;obtain ⟨y,hy⟩:∃ z,z=w5.heap.size:=⟨_,rfl⟩;rw [<-hy] at a0 z0 e0 ⊢;have HY:=aA hy;have i6:=aA z0;have d4:=aA a0;have e3:w6.drew.cell? ⟨c,3,none⟩=some (.slice a3 n3 b3):=y0.out.aQ c3;have e4:w6.drew.cell? ⟨c,4,none⟩=some (.slice a4 n4 b4):=y0.out.aQ c4;have x6:y≠c:=by omega
  have g0:Hid (∀ wx,Only [] w6 wx->Calls prog 165 #[.slice a3 n3 b3] wx (fun e w'=>∃ v',e=.returned v'/\Bls w' wx.heap.size v' t.kH/\Only [] wx w')):=fun wx hox=>by
   have h3:=g9.out;rw [i1.out] at h3;have:=(HK.out.th k t HT.out);exact aAY wx _ _ (h3.aQG.only (y0.out.trans hox (by simp))) (by have h4:=this.le;have h5:=this.rl;unfold Th.kH;split<;>simp;omega)
  have g1:Hid (∀ wx,Only [] w6 wx->Calls prog 80 #[.slice a4 n4 b4] wx (fun e w'=>∃ v',e=.returned v'/\aK w' wx.heap.size v' t.blocks/\Only [] wx w')):=fun wx hox=>by
   have h3:=f9.out;rw [i2.out] at h3;exact oW wx _ _ (h3.only (y0.out.trans hox (by simp)) (by simp)) (by have:=(HK.out.aAu HT.out).2.1;omega)
  have i3:Hid (∀ wx,Only [] w6 wx->wx.cell? ⟨y,3,none⟩=some (.slice a3 n3 b3)/\wx.cell? ⟨y,4,none⟩=some (.slice a4 n4 b4)/\wx.frozen? ⟨y,3,none⟩=false/\wx.frozen? ⟨y,4,none⟩=false):=fun wx hox=>by
   have:=hox.row d4.out (by simp);exact ⟨this.cell 3 rfl,this.cell 4 rfl,this.free 3,this.free 4⟩
  have y9:Hid (Only [] w6 w6.drew):=(Only.refl [] w6).drew;clear hy z0 a0 c0 c1 c2 c3 c4 e0 j2;go_region_held3 (fun w'=>w'.cell? ⟨c,3,none⟩=some (.slice a3 n3 b3)/\w'.cell? ⟨c,4,none⟩=some (.slice a4 n4 b4))
   (first
    | (exact ⟨e3,e4⟩)
    | (exact ⟨h2.aQ e3,h2.aQ e4⟩)
    | (exact ⟨k3,k4⟩)
    | (exact ⟨(World.cell?_setCell_far _ _ _ _ x6).trans k3,(World.cell?_setCell_far _ _ _ _ x6).trans k4⟩)
    | (exact ⟨(World.cell?_setCell_far _ _ _ _ x6).trans ((World.cell?_setCell_far _ _ _ _ x6).trans k3),(World.cell?_setCell_far _ _ _ _ x6).trans ((World.cell?_setCell_far _ _ _ _ x6).trans k4)⟩))
   (first
    | (go_at_call 165;refine (g0.out _ y9.out).mono ?_;rintro e w7 ⟨v7,rfl,b0,h2⟩;obtain ⟨h7,h9,f5⟩:=b0.len;obtain ⟨n7,e8⟩:∃ z,z=t.kH.length:=⟨_,rfl⟩;rw [<-e8] at f5;subst f5;have c5:=aA b0;clear b0 e8)
    | (go_at_call 80;refine (g1.out _ (y9.out.trans h2 (by simp))).mono ?_;rintro e w8 ⟨v8,rfl,b1,x4⟩;obtain ⟨h8,x1,f6⟩:=b1.len;obtain ⟨n8,e9⟩:∃ z,z=t.blocks.length:=⟨_,rfl⟩;rw [<-e9] at f6;subst f6;have c6:=aA b1;have k3:=x4.aQ (h2.aQ e3);have k4:=x4.aQ (h2.aQ e4);obtain ⟨y3,y4,y5,y6⟩:=i3.out w8 ((y9.out.trans h2 (by simp)).trans x4 (by simp));clear b1 e9))
  have z8:Only [] w6 w8:=(y9.out.trans h2 (by simp)).trans x4 (by simp);have z0:=i6.out;have k5:w6.heap.size<=w7.heap.size:=h2.size;have k6:w7.heap.size<=w8.heap.size:=x4.size;have y2:=c5.out.own;have y1:=c6.out.own;have j8:=HY.out;have d8:=z8.row d4.out (by simp);have a1:Row ((w8.setCell ⟨y,3,none⟩ (.slice h7 n7 h9)).setCell ⟨y,4,none⟩ (.slice h8 n8 x1)) y 184 [.int .i64 kd,.int .i64 cl,.int .i64 ln,.slice h7 n7 h9,.slice h8 n8 x1]:=(d8.set 3 _).set 4 _;have x9:Only [y] w8 ((w8.setCell ⟨y,3,none⟩ (.slice h7 n7 h9)).setCell ⟨y,4,none⟩ (.slice h8 n8 x1)):=((Only.refl [y] w8).set (.inl (by simp)) _).set (.inl (by simp)) _;have i7:Bls ((w8.setCell ⟨y,3,none⟩ (.slice h7 n7 h9)).setCell ⟨y,4,none⟩ (.slice h8 n8 x1)) w6.heap.size (.slice h7 n7 h9) t.kH:=(c5.out.only x4 (by simp)).only x9 (fun g hg=>by have:w6.heap.size<=g:=(y2 g hg).1;simp;omega);have i8:aK ((w8.setCell ⟨y,3,none⟩ (.slice h7 n7 h9)).setCell ⟨y,4,none⟩ (.slice h8 n8 x1)) w7.heap.size (.slice h8 n8 x1) t.blocks:=c6.out.only x9 (fun g hg=>by have:=(y1 g hg).1;simp;omega);generalize ((w8.setCell ⟨y,3,none⟩ (.slice h7 n7 h9)).setCell ⟨y,4,none⟩ (.slice h8 n8 x1))=w9 at*;have z7:Only [] w5 w9:=(y0.out.trans z8 (by simp)).trans x9 (fun x hx=>.inr (by simp at hx;omega));have P9:=x8.out.aN z7;have q1:=P9.cells.2.1;obtain ⟨x7,f8,d7,d9⟩:=dO.store (b:=y) P9.mp (by omega) z6.out;have O9:aI (·=X1.mb) w9 x7:=(aI.refl _ w9).grown d9 (fun j hj=>by cases hj;exact .inl rfl);have h6:aI (fun j=>L1 j=some .map) w5 x7:=(z7.xA (S:=fun j=>L1 j=some .map)).trans O9 (fun x hx=>.inl (by rw [hx];exact x8.out.Lp));have k2:X1.mb<w5.heap.size:=x8.out.lt _ (by rw [x8.out.Lp];simp);have d6:dO x7 X1.mb 192 (fun j=>if j=k then some y else (sS M.ob h0 j).map fun _=>X1.blk j):=dO.tight d7 c7.out (fun j hj hs=>by
   by_cases e:j=k
   ·rw [e,HT.out];rfl
   simp only [e,if_false] at hs;unfold sS at hs;split at hs
   ·simp at hs
   cases ho:M.ob j with
   | none=>rw [ho] at hs;cases hs
   | some u=>rfl)
  have k7:=x9.size;obtain ⟨L2,X2,r1,r2,r3⟩:=x8.out.aRJ (w':=x7) (k:=k) (b:=y) (rv:=.slice h7 n7 h9) (bv:=.slice h8 n8 x1) (t:=t) h6 d6 (by omega) (by have:=O9.size;have:=a1.lt;omega)
   ⟨184,by
    have:=O9.row a1 (by intro e;omega);unfold aAh;rw [<-g3.out,<-g2.out,<-g5.out];exact this⟩ ((i7.dA O9 (fun g hg e=>by have:w6.heap.size<=g:=(y2 g hg).1;omega)).base (by omega)) ((i8.dA O9 (fun g hg e=>by have:=(y1 g hg).1;omega)).base (by omega))
   (fun g hg=>by have:w6.heap.size<=g:=(y2 g hg).1;omega) (fun g hg=>⟨by have:=(y1 g hg).1;omega,fun e=>by have:=(y2 g e).2;have:=(y1 g hg).1;omega⟩)
  have g6:=aA r1;have g7:Hid (∀ j,L2 j≠none->w.heap.size<=j):=fun j hj=>by
   rcases r2 j hj with h1|h1
   ·exact x3.out j h1
   have:=x2.out.size;omega
  have g8:Hid (L2 ri=none):=by
   show _=_
   cases e:L2 ri with
   | none=>rfl
   | some ℓ=>
    rcases r2 ri (by rw [e];simp) with h1|h1
    ·exact absurd x5.out h1
    have:=i9.out;omega
  have d5:Hid (x7.ranges prog 3 dR mb ri 192 D0 (fun z=>h0 z && !z.sameKey (.int .i64 k)) a5):=xU j0.out h6 (fun x=>by have:=x3.out mb (by rw [x];simp);have:=d1.out;omega) (fun x=>by have:=x5.out;rw [x] at this;cases this)
  have i4:Hid (Only [] w x7):=by
   refine ⟨h6.os.trans x2.out.os,h6.tape.trans x2.out.tape,h6.output.trans x2.out.output,Nat.le_trans x2.out.size h6.size,fun j hj _=>?_⟩;rw [h6.block j (Nat.lt_of_lt_of_le hj x2.out.size) (fun x=>by
    have h1:=x3.out j (by rw [x];simp);omega)]
   exact x2.out.block j hj (by simp)
  generalize j1:X1.mb=k8 at*;clear r1 r2 r3 i7 i8 d8 a1 d7 d6 d9 O9 h6 z7 x9 z8 P9 h2 x4 y2 y1 k3 k4 y3 y4 y5 y6 e3 e4 j1 j8;go_wp2_with fail;refine ⟨⟨_,a5,L2,X2,d5.out,?_,g7,g8,i4.out⟩,by rw [d5.out.left_eq];exact i5⟩;have e:sS M.ob (fun z=>h0 z && !z.sameKey (.int .i64 k))=dZ (sS M.ob h0) k (some t):=by
   funext j;unfold dZ
   by_cases e:j=k
   ·subst e;rw [if_pos rfl];unfold sS;simp only [aLS j j z6.out,decide_true,Bool.not_true,Bool.and_false,Bool.false_eq_true,if_false];exact HT.out
   rw [if_neg e];unfold sS;simp only [aLS j k z6.out];simp [e]
  rw [e];exact g6.out
end
end Go.Proofs.YthflghdaejbdkaaGreat
