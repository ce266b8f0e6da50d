/- Lemmas of this claim. -/
import Derived.Deep.DeepFit
import Derived.Test.YthflghdaejbdkaaGreatXbBlock
import Derived.Test.YthflghdaejbdkaaGreatXbQModel
import Derived.Laws.AppendOwnNone
import Derived.OwnWalk
import Derived.Laws.StructEq
import Derived.Test.YthflghdaejbdkaaGreatRows
import Derived.Test.YthflghdaejbdkaaGreatXbLib
import Derived.Maps.RangeWalk
import Derived.Maps.Ext
import Derived.WalkSpells
import Derived.IntWalk
namespace Go.Proofs.YthflghdaejbdkaaGreat
open _root_.Go.Proofs.Tryz (prog)
open Go.RowKit
set_option maxHeartbeats 6400000
set_option maxRecDepth 100000
set_option linter.unusedVariables false
theorem dQ.sV {w w':World} {p b:Nat} {P:Pl} (h:dQ w p b P) (k:lX w w'):dQ w' p b P:=h.only (k.only []) (by simp) (by simp)
def aBO (P:Pl):Value:=match P.pair with|none=>.tuple #[.int .i64 0,.int .i64 0,.bool false]|some (i,j)=>.tuple #[.int .i64 (i:Int),.int .i64 (j:Int),.bool true]
theorem aFM (w:World) (p b:Nat) (P:Pl) (h:dQ w p b P) :
  Calls prog 207 #[.pointer (some ⟨p,0,none⟩)] w fun e w'=>e=.returned (aBO P)/\∃ n,w'=w.drewN n:=by
 refine aF fun R hR=>?_;have y4:=h.n24;obtain ⟨cap,z0,zf,h9,_⟩:=h.facts;have H:=aA h;clear h;go_in;go_wp2;go_loopw [8] (fun s8 wr=>∃ c:Nat,c<=3/\s8=.int .i64 c/\Hid (∀ d:Nat,d<c->P.dY d=none)/\lX w wr) (fun s8 _=>3 - (intOf s8).toNat)
 case atStart=>exact ⟨0,by omega,rfl,fun d hd=>by omega,lX.refl _⟩
 case round=>
  obtain ⟨c,y5,rfl,h5,x2⟩:=hrel;obtain ⟨wo,rfl⟩:∃ wo:World,wo=wr:=⟨_,rfl⟩;have x8:=aA (H.o.sV x2)
  by_cases y6:c<3
  ·obtain ⟨y3,z0,zf,h9,_⟩:=x8.o.facts;have hC:IsC (c:Int):=by unfold IsC;omega
   go_wp2;go_loopw [2,16] (fun s2 x5 wr=>∃ (i:Nat) (fr:Option Nat),i<=P.n/\x5=.int .i64 i/\Hid (P.frm c i=fr)/\IsO s2 fr/\lX w wr) (fun _ x5 _=>P.n - (intOf x5).toNat)
   case atStart=>exact ⟨0,none,by omega,rfl,rfl,rfl,x2⟩
   case round=>
    clear z0 zf h9 x2 x8;obtain ⟨i,fr,hi,rfl,h2,ho,h4⟩:=hrel;have h0:=aA (H.o.sV h4);obtain ⟨y0,z0,zf,h9,_⟩:=h0.o.facts
    by_cases x4:i<P.n
    ·have y:=fun n=>yM (wr.drewN n) b (i*25) (P.pg i) ((h0.o.pg i x4).drewN n) c hC;have h7:=fun n=>pJ (wr.drewN n) b (i*25) (P.pg i) ((h0.o.pg i x4).drewN n)
     cases hp:(P.pg i).partly c with
     | false=>
      rw [hp] at y;have hN:=aA (aGh h2.o hp);clear hp;go_wp2;go_quiet (first|(go_at_call 238;with_reducible exact aU (y _)))
      go_wp2;exact ⟨⟨i+1,fr,by omega,by go_num,hN,ho,h4.more _⟩,by simp [intOf];omega⟩
     | true=>
      rw [hp] at y;have HP:=aA hp;clear hp
      cases fr with
      | none=>
       obtain rfl:_=Value.int .i64 (-1):=ho;have hN:=aA (aDQ h2.o HP.o);go_wp2;go_quiet (first|(go_at_call 238;with_reducible exact aU (y _)))
       go_wp2;exact ⟨⟨i+1,some i,by omega,by go_num,hN,rfl,h4.more _⟩,by simp [intOf];omega⟩
      | some f=>
       obtain rfl:_=Value.int .i64 (f:Int):=ho;have hf:=(Pl.kV h2.o).1;have h8:=fun n=>pJ (wr.drewN n) b (f*25) (P.pg f) ((h0.o.pg f (by omega)).drewN n);have y2:decide ((f:Int)<0)=false:=by simp
       have c8:=(P.pg i).count_le;have d8:=(P.pg f).count_le
       by_cases h3:(P.pg i).count<=(P.pg f).count
       ·have hN:=aA (aGj h2.o HP.o h3);go_wp2;go_quiet (first|(go_at_call 238;with_reducible exact aU (y _))|(go_at_call 239;first|(with_reducible exact aU (h7 _))|(with_reducible exact aU (h8 _))))
        go_wp2;exact ⟨⟨i+1,some i,by omega,by go_num,hN,rfl,h4.more _⟩,by simp [intOf];omega⟩
       have hN:=aA (aGi h2.o h3);have y1:decide ((P.pg i).count<=(P.pg f).count)=false:=by simpa using h3
       clear h3;go_wp2;go_quiet (first|(go_at_call 238;with_reducible exact aU (y _))|(go_at_call 239;first|(with_reducible exact aU (h7 _))|(with_reducible exact aU (h8 _))))
       go_wp2;exact ⟨⟨i+1,some f,by omega,by go_num,hN,rfl,h4.more _⟩,by simp [intOf];omega⟩
    obtain rfl:i=P.n:=by omega
    obtain ⟨wp,rfl⟩:∃ wp:World,wp=wr:=⟨_,rfl⟩;go_wp2;go_loopw [3,55] (fun s3 x6 wr=>∃ (j:Nat) (to:Option Nat),j<=P.n/\x6=.int .i64 j/\Hid (P.too c fr j=to)/\IsO s3 to/\lX w wr) (fun _ x6 _=>P.n - (intOf x6).toNat)
    case atStart=>exact ⟨0,none,by omega,rfl,rfl,rfl,h4⟩
    case round=>
     clear z0 zf h9 h0 h4;obtain ⟨j,to,hj,rfl,z,h6,h1⟩:=hrel;have h0:=aA (H.o.sV h1);obtain ⟨y0,z0,zf,h9,_⟩:=h0.o.facts
     by_cases x1:j<P.n
     ·have y:=fun n=>yM (wr.drewN n) b (j*25) (P.pg j) ((h0.o.pg j x1).drewN n) c hC;have h7:=fun n=>pJ (wr.drewN n) b (j*25) (P.pg j) ((h0.o.pg j x1).drewN n)
      cases fr with
      | none=>
       obtain rfl:_=Value.int .i64 (-1):=ho;have hp:=Pl.xB h2.o j x1;have hN:=aA (wL z.o hp);have hb:((j:Int) != -1)=true:=by rw [bne_iff_ne];omega
       rw [hp] at y;clear hp;go_wp2;go_quiet (first|(go_at_call 238;with_reducible exact aU (y _)))
       go_wp2;exact ⟨⟨j+1,to,by omega,by go_num,hN,h6,h1.more _⟩,by simp [intOf];omega⟩
      | some f=>
       obtain rfl:_=Value.int .i64 (f:Int):=ho
       by_cases x3:j=f
       ·have hN:=aA (aFA z.o (by rw [x3]));have hb:((j:Int) != (f:Int))=false:=by rw [bne_eq_false_iff_eq];omega
        clear x3;go_wp2;go_quiet (fail);go_wp2;exact ⟨⟨j+1,to,by omega,by go_num,hN,h6,h1.more _⟩,by simp [intOf];omega⟩
       have x9:some j≠some f:=by simpa using x3
       have x7:=aA x9;have hb:((j:Int) != (f:Int))=true:=by rw [bne_iff_ne];omega
       clear x3 x9
       cases hp:(P.pg j).partly c with
       | false=>
        rw [hp] at y;have hN:=aA (wL z.o hp);clear hp;go_wp2;go_quiet (first|(go_at_call 238;with_reducible exact aU (y _)))
        go_wp2;exact ⟨⟨j+1,to,by omega,by go_num,hN,h6,h1.more _⟩,by simp [intOf];omega⟩
       | true=>
        rw [hp] at y;have HP:=aA hp;clear hp
        cases to with
        | none=>
         obtain rfl:_=Value.int .i64 (-1):=h6;have hN:=aA (aCz z.o x7.o HP.o);go_wp2;go_quiet (first|(go_at_call 238;with_reducible exact aU (y _)))
         go_wp2;exact ⟨⟨j+1,some j,by omega,by go_num,hN,rfl,h1.more _⟩,by simp [intOf];omega⟩
        | some t=>
         obtain rfl:_=Value.int .i64 (t:Int):=h6;have ht:=(Pl.oN z.o).1;have h8:=fun n=>pJ (wr.drewN n) b (t*25) (P.pg t) ((h0.o.pg t (by omega)).drewN n);have y2:decide ((t:Int)<0)=false:=by simp
         have c8:=(P.pg j).count_le;have d8:=(P.pg t).count_le
         by_cases h3:(P.pg t).count<(P.pg j).count
         ·have hN:=aA (aFB z.o x7.o HP.o h3);go_wp2;go_quiet (first|(go_at_call 238;with_reducible exact aU (y _))|(go_at_call 239;first|(with_reducible exact aU (h7 _))|(with_reducible exact aU (h8 _))))
          go_wp2;exact ⟨⟨j+1,some j,by omega,by go_num,hN,rfl,h1.more _⟩,by simp [intOf];omega⟩
         have hN:=aA (aFC z.o h3);have y1:decide ((P.pg t).count<(P.pg j).count)=false:=by simpa using h3
         clear h3;go_wp2;go_quiet (first|(go_at_call 238;with_reducible exact aU (y _))|(go_at_call 239;first|(with_reducible exact aU (h7 _))|(with_reducible exact aU (h8 _))))
         go_wp2;exact ⟨⟨j+1,some t,by omega,by go_num,hN,rfl,h1.more _⟩,by simp [intOf];omega⟩
     obtain rfl:j=P.n:=by omega
     cases to with
     | none=>
      obtain rfl:_=Value.int .i64 (-1):=h6;have hN:Hid (∀ d:Nat,d<c+1->P.dY d=none):=by
       intro d hd
       by_cases e:d=c
       ·subst e;unfold Pl.dY;rw [h2.o,z.o]
        cases fr<;>rfl
       exact h5.o d (by omega)
      go_wp2;exact ⟨⟨c+1,by omega,by go_num,hN,h1⟩,by simp [intOf];omega⟩
     | some t=>
      obtain rfl:_=Value.int .i64 (t:Int):=h6
      cases fr with
      | none=>exact absurd (Pl.oN z.o).2.2 (by rw [Pl.xB h2.o t (Pl.oN z.o).1];simp)
      | some f=>
       obtain rfl:_=Value.int .i64 (f:Int):=ho;have hN:Hid (aBO P=.tuple #[.int .i64 (f:Int),.int .i64 (t:Int),.bool true]):=by
        have e1:P.dY c=some (f,t):=by unfold Pl.dY;rw [h2.o,z.o]
        have e2:P.pair=some (f,t):=by
         unfold Pl.pair;obtain rfl|rfl|rfl:c=0\/c=1\/c=2:=by omega
         ·rw [show P.dY 0=some (f,t) from e1];rfl
         ·rw [show P.dY 0=none from h5.o 0 (by omega),show P.dY 1=some (f,t) from e1];rfl
         rw [show P.dY 0=none from h5.o 0 (by omega),show P.dY 1=none from h5.o 1 (by omega),show P.dY 2=some (f,t) from e1];rfl
        show _=_;unfold aBO;rw [e2]
       go_wp2_with fail;go_ret3;exact hR.o _ _ ⟨by rw [hN.o];rfl,h1.ex⟩
  obtain rfl:c=3:=by omega
  have hN:Hid (aBO P=.tuple #[.int .i64 0,.int .i64 0,.bool false]):=by
   show _=_;unfold aBO Pl.pair;rw [show P.dY 0=none from h5.o 0 (by omega),show P.dY 1=none from h5.o 1 (by omega),show P.dY 2=none from h5.o 2 (by omega)];rfl
  go_wp2_with fail;go_ret3;exact hR.o _ _ ⟨by rw [hN.o];rfl,x2.ex⟩
set_option maxHeartbeats 1600000
theorem cZ.keep {b o y:Nat} {w w':World} {q:Pg} (h:cZ b o w w') (e:y+25<=o\/o+25<=y) (z:gQ w b y q):gQ w' b y q:=by
 intro r d;rw [h.cell _ (by omega)];exact z r d
theorem dF (w:World) (p b:Nat) (P:Pl) (h:dQ w p b P) (d:P.pair=none) :
  Calls prog 137 #[.pointer (some ⟨p,0,none⟩)] w fun e w'=>e=.returned (.tuple #[.int .i64 0,.int .i64 0,.int .i64 3])/\lX w w':=by
 refine aF fun R z=>?_;have y:=aFM w p b P h;rw [show aBO P=.tuple #[.int .i64 0,.int .i64 0,.bool false] by unfold aBO;rw [d]] at y;go_in;go_wp2_with fail;refine (jC _ _ _ _ h).mono ?_;rintro e _ ⟨rfl,rfl⟩;go_wp2_with fail;go_fit y;rintro e _ ⟨rfl,n1,rfl⟩;go_wp2_with fail;go_ret3;exact z.o _ _ ⟨rfl,lX.of _ _⟩
set_option maxHeartbeats 6400000 in
theorem dK (w:World) (p b:Nat) (P:Pl) (h:dQ w p b P) (i j:Nat) (hp:P.pair=some (i,j)) :
  Calls prog 137 #[.pointer (some ⟨p,0,none⟩)] w fun e w'=>
   e=.returned (.tuple #[.int .i64 ((16*i+(P.pg i).top (P.pg i).cls*bsz (P.pg i).cls:Nat):Int),.int .i64 ((16*j+(P.pg j).gap (P.pg j).cls*bsz (P.pg i).cls:Nat):Int),.int .i64 0])/\dQ w' p b (P.moved i j)/\Only [b] w w':=by
 refine aF fun R hR=>?_;have y9:=fun wx hx=>aFM wx p b P hx;rw [show aBO P=.tuple #[.int .i64 (i:Int),.int .i64 (j:Int),.bool true] by unfold aBO;rw [hp]] at y9;have hP:=Pl.eH hp;have h2:Hid (P.moved i j=(P.set j ((P.pg j).take (P.pg i).cls ((P.pg j).gap (P.pg j).cls) fun x=>(P.pg i).cell ((P.pg i).top (P.pg i).cls*bsz (P.pg i).cls+x))).set i ((P.pg i).release ((P.pg i).top (P.pg i).cls))):=rfl;have h0:=aA (h.ok.moved hP).1;rw [h2.o] at h0;have hC:=hP.c;have h4:(P.pg i).cls≠-1:=by rcases hC with e|e|e<;>omega
 have h1:=(h.ok i hP.hi).top h4;have nD:=(h.ok j hP.hj).gap hC hP.pj;have y:=hP.same;rw [y] at h2 hR h0;have hi:=hP.hi;have hj:=hP.hj;have y8:=hP.ne;have c0:=h.n24;have a1:=h.ok i hi;have a0:=h.ok j hj;have b5:=h.ne;obtain ⟨c,hc⟩:∃ c,c=(P.pg i).cls:=⟨_,rfl⟩;rw [<-hc] at hC h1 nD h2 y hR h0;have a9:=hC.sz;have h8:=hC.blk h1.1;have h9:=hC.blk nD.1;have h6:=aA (h.ok.set (a0.take hC (.inr y) nD.1 (fun x=>(P.pg i).cell ((P.pg i).top c*bsz c+x))) (i:=j));have z6:=aA (a1.release h4 ((P.pg i).top c));have y7:∀ wx,gQ wx b (i*25) (P.pg i)->Calls prog 209 #[.pointer (some ⟨b,i*25,none⟩),.bool true] wx fun e w'=>e=.returned (.int .i64 ((P.pg i).top c))/\lX wx w':=fun wx hx=>by
  have:=aKM wx b (i*25) (P.pg i) hx (by rw [<-hc];exact hC) (by rw [<-hc];exact h1.1);rw [<-hc] at this;exact this
 have y6:∀ wx,gQ wx b (j*25) (P.pg j)->Calls prog 209 #[.pointer (some ⟨b,j*25,none⟩),.bool false] wx fun e w'=>e=.returned (.int .i64 ((P.pg j).gap c))/\lX wx w':=fun wx hx=>by
  have:=zX wx b (j*25) (P.pg j) hx (by rw [y];exact hC) (by rw [y];exact nD.1);rw [y] at this;exact this
 have h7:∀ wx,Calls prog 208 #[.int .i64 c] wx (aO wx (.int .i64 (bsz c:Int))):=fun wx=>tX wx c hC;have a4:Hid ((P.pg i).cls=c):=hc.symm;obtain ⟨k,hk⟩:∃ k,k=(P.pg i).top c:=⟨_,rfl⟩;obtain ⟨l,hl⟩:∃ l,l=(P.pg j).gap c:=⟨_,rfl⟩;obtain ⟨z,hz⟩:∃ z,z=bsz c:=⟨_,rfl⟩;simp only [<-hk,<-hl,<-hz] at h2 hR h0 h6 z6 y7 y6 h7 h8 h9 a9 h1 nD;obtain ⟨mk,x7⟩:∃ mk,mk=k*z:=⟨_,rfl⟩;obtain ⟨d,x1⟩:∃ d,d=l*z:=⟨_,rfl⟩;simp only [<-x7,<-x1] at h2 hR h0 h6 h8 h9;have a6:(k:Int)*(z:Int)=(mk:Int):=by rw [x7];simp
 have d4:((k:Int)+1)*(z:Int)=(mk:Int)+(z:Int):=by rw [Int.add_mul,Int.one_mul,a6]
 have a7:(l:Int)*(z:Int)=(d:Int):=by rw [x1];simp
 have d5:((l:Int)+1)*(z:Int)=(d:Int)+(z:Int):=by rw [Int.add_mul,Int.one_mul,a7]
 have b3:mk+z<=16:=h8.1;have y1:d+z<=16:=h9.1;have e8:z<=8:=by omega
 have e7:0<z:=by omega
 have a8:k<8:=by omega
 have x6:l<8:=by omega
 have b7:¬ 16=mk:=by omega
 have b6:¬ 16=d:=by omega
 have c6:(mk:Int)+(z:Int)<=16:=by omega
 have c7:(0:Int)<=mk:=by omega
 have c8:(mk:Int)<=(mk:Int)+(z:Int):=by omega
 have c9:(0:Int)<=(mk:Int)+(z:Int):=by omega
 have d0:(d:Int)+(z:Int)<=16:=by omega
 have d1:(0:Int)<=d:=by omega
 have d2:(d:Int)<=(d:Int)+(z:Int):=by omega
 have d3:(0:Int)<=(d:Int)+(z:Int):=by omega
 have d9:IntKind.i64.wrap (mk:Int)=mk:=IntWalk.i64_in _ (by omega);have e0:IntKind.i64.wrap ((mk:Int)+(z:Int))=(mk:Int)+(z:Int):=IntWalk.i64_in _ (by omega);have e4:IntKind.i64.wrap ((k:Int)+1)=(k:Int)+1:=IntWalk.i64_in _ (by omega);have d6:IntKind.i64.wrap (d:Int)=d:=IntWalk.i64_in _ (by omega);have d7:IntKind.i64.wrap ((d:Int)+(z:Int))=(d:Int)+(z:Int):=IntWalk.i64_in _ (by omega);have d8:IntKind.i64.wrap ((l:Int)+1)=(l:Int)+1:=IntWalk.i64_in _ (by omega);have H:=aA h;have b4:=aA h1;have b8:=aA nD;have z7:=aA y;have z3:=aA y8;have HZ:=aA hz;have z4:=aA x1;clear hc hk hl hz x7 x1 h hp hP h8 h9 h1 nD y y8 h4;go_in;go_wp2_with fail;refine (jC _ _ _ _ H.o).mono ?_;rintro e _ ⟨rfl,rfl⟩;go_wp2_with fail;refine (y9 _ H.o).mono ?_;rintro e w1 ⟨rfl,h3⟩;have h3:lX w w1:=h3;have H1:=aA (H.o.sV h3);obtain ⟨b1,z0,zf,x2,_⟩:=H1.o.facts;have y2:=(H1.o.pg i hi).cls;rw [a4.o] at y2;go_wp2;go_quiet (fail);go_wp2_with fail;refine (h7 _).mono ?_;rintro e _ ⟨rfl,rfl⟩;go_wp2_with fail;refine (y7 _ ((H1.o.pg i hi).drewN _)).mono ?_;rintro e w2 ⟨rfl,y3⟩;have x5:=(lX.of w1 _).trans y3;go_wp2_with fail;refine (y6 _ ((H1.o.sV x5).pg j hj)).mono ?_;rintro e w3 ⟨rfl,y4⟩;have y5:=(h3.trans x5).trans y4;have H3:=aA (H.o.sV y5);clear h3 y3 x5 y4 H1 z0 zf x2 y2;obtain ⟨b2,z0,zf,x2,_⟩:=H3.o.facts;go_wp2_with fail;go_still_tail 22,(by kernel_rfl);have a2:((mk:Int)+(z:Int)).toNat - mk=z:=by omega
 have a3:((d:Int)+(z:Int)).toNat - d=z:=by omega
 rw [a2,a3];change wpList _ _ _ _ _ w3.drew;have x3:=H3.o.pg i hi;have x4:=H3.o.pg j hj;refine tK rfl (.tmp 54) (.tmp 65) 23 23 3 rfl Tryz.underlying23 (by kernel_rfl) b (j*25+9+d) z (16 - d) rfl b (i*25+9+mk) (16 - mk) rfl ((List.range z).map fun x=>Value.int .i64 ((P.pg i).cell (mk+x))) (by simp) ?c1 ?c2 ?c3 ?c4 ?c5
 case c1=>
  intro x v hv;obtain ⟨hx,rfl⟩:=kU hv;have:=x3.cell (k:=mk+x) (by omega);rw [<-Nat.add_assoc] at this;exact this
 case c2=>
  intro x hx;have:=x4.cell (k:=d+x) (by omega);rw [<-Nat.add_assoc] at this;show (w3.cell? _).isSome=true;rw [this];rfl
 case c3=>exact fun x hx=>x2 _
 case c4=>
  intro v hv;simp only [List.mem_map] at hv;obtain ⟨x,_,rfl⟩:=hv;rfl
 have x9:gQ (w3.drew.setCells b (j*25+9+d) ((List.range z).map fun x=>Value.int .i64 ((P.pg i).cell (mk+x)))) b (j*25) { P.pg j with cell:=fun x=>if d<=x/\x<d+z then (P.pg i).cell (mk+(x - d)) else (P.pg j).cell x }:=(show gQ w3.drew b (j*25) _ from x4).setCells d z y1 (fun x=>(P.pg i).cell (mk+x));have zO:cZ b (j*25) w3 (w3.drew.setCells b (j*25+9+d) ((List.range z).map fun x=>Value.int .i64 ((P.pg i).cell (mk+x)))):=(show cZ b (j*25) w3 w3.drew from (cZ.refl _ _ _).drewN 1).setCells d z y1 (fun x=>(P.pg i).cell (mk+x));generalize w3.drew.setCells b (j*25+9+d) ((List.range z).map fun x=>Value.int .i64 ((P.pg i).cell (mk+x)))=w4 at*;have b0:=x9.used x6;have z1:∀ x,w4.frozen? ⟨b,x,none⟩=false:=by
  intro x;obtain ⟨T,cs,a5⟩:=H3.o.hb;obtain ⟨b9,h5⟩:=zO.row T cs a5;exact h5.free x
 have z8:=aA (x9.aBF x6 true);have x8:=zO.aPH x6 (.bool true);have z9:Hid (gQ (w4.setCell ⟨b,j*25+1+l,none⟩ (.bool true)) b (i*25) (P.pg i)):=x8.keep (by have:=z3.o;omega) x3;have y0:=aA x8;have z2:∀ x,(w4.setCell ⟨b,j*25+1+l,none⟩ (.bool true)).frozen? ⟨b,x,none⟩=false:=fun x=>by rw [World.frozen?_setCell];exact z1 x
 have z5:=aA z2;clear x9 zO x3 x4 x8 z0 zf x2 z2;go_wp2_with fail;refine (aAM _ b (i*25) (P.pg i) z9.o z5.o k a8).mono ?_;rintro e w6 ⟨rfl,g6,o6⟩;have e5:IntKind.i64.wrap ((i:Int)*16)=(i:Int)*16:=IntWalk.i64_in _ (by omega);have e6:IntKind.i64.wrap ((j:Int)*16)=(j:Int)*16:=IntWalk.i64_in _ (by omega);clear b0 z1;go_wp2_with fail;go_ret3;refine hR.o _ _ ⟨?_,?_,?_⟩
 ·have e1:((16*i+mk:Nat):Int)=(i:Int)*16+(mk:Int):=by omega
  have e2:((16*j+d:Nat):Int)=(j:Int)*16+(d:Int):=by omega
  rw [e1,e2];rfl
 ·rw [h2.o];have e3:(P.pg j).take c l (fun x=>(P.pg i).cell (mk+x))={ cls:=(P.pg j).cls,used:=up (P.pg j).used l true,cell:=fun x=>if d<=x/\x<d+z then (P.pg i).cell (mk+(x - d)) else (P.pg j).cell x }:=by
   unfold Pg.take;rw [z7.o,z4.o,HZ.o]
  have hA:dQ (w4.setCell ⟨b,j*25+1+l,none⟩ (.bool true)) p b (P.set j ((P.pg j).take c l fun x=>(P.pg i).cell (mk+x))):=
   H3.o.turn hj (by rw [e3];exact z8.o) y0.o h6.o
  exact hA.turn (i:=i) hi g6 o6 h0.o
 exact (y5.only [b]).trans ((y0.o.only).trans o6.only (by simp)) (by simp)
theorem aMu (w:World) (p b:Nat) (P:Pl) (h:dQ w p b P) :
  Calls prog 137 #[.pointer (some ⟨p,0,none⟩)] w fun e w'=>
   e=.returned (.tuple #[.int .i64 P.move.1,.int .i64 P.move.2.1,.int .i64 P.move.2.2.1])/\dQ w' p b P.move.2.2.2/\Only [b] w w':=by
 cases y:P.pair with
 | none=>
  rw [Pl.dF y];exact (dF w p b P h y).mono fun e w' ⟨z,hd⟩=>⟨z,h.sV hd,hd.only _⟩
 | some x=>
  obtain ⟨i,j⟩:=x;rw [Pl.dK y];exact dK w p b P h i j y
def yJ:Value:=.agg ((Value.int .i64 0 :: List.replicate 8 (Value.bool false)) ++ List.replicate 16 (Value.int .i64 0)).toArray
theorem aFY:(prog.info? 232).map (fun i=>(i.zero,i.size,i.bytes))=some (some yJ,25,144):=by kernel_rfl
def Pl.row (P:Pl):List Value:=(List.range (P.n*25)).map fun x=>(P.pg (x / 25)).at (x % 25)
theorem Pl.aOv (P:Pl):P.row.length=P.n*25:=by simp [Pl.row]
theorem Pg.at_one (p:Pg) (r:Nat):(p.at r).oneCell'=true:=by
 unfold Pg.at
 split
 ·rfl
 split<;>rfl
theorem aIi (w:World) (b n c:Nat) (P:Pl) (hn:n=P.n) (x3:n<=24) (hp:∀ i,i<P.n->gQ w b (i*25) (P.pg i)) (h1:1<=n) :
  Calls prog 206 #[.slice (some ⟨b,0,none⟩) n c] w fun e w'=>
   ∃ g cap,e=.returned (.slice (some ⟨g,0,none⟩) n cap)/\(∃ T cs,Row w' g T cs)/\(∀ i,i<P.n->gQ w' g (i*25) (P.pg i))/\Only [] w w'/\w.heap.size<=g:=by
 have hq:=fun (wx:World)=>Lib.run_eql_slice_nil (P:=prog) wx 227 232 (some ⟨b,0,none⟩) n c 0 0 Tryz.underlying227;have HP:=aA hp;have HN:=aA hn;clear hp hn;obtain ⟨i0,hi,h5,h6,z⟩:=info_parts aFY;have h7:=aA h5;have h8:=aA h6;have h9:=aA z;have HI:=aA hi;clear h5 h6 z hi;refine aF fun R hR=>?_;go_in;go_wp2_with (at_builtin;refine bV rfl _ _ 227 rfl w.heap.size 232 i0 yJ 25 144 Tryz.underlying227 HI.o h7.o h8.o h9.o rfl (by decide) _ 0 [] rfl (World.ownsRow_made w #[] 0 (Nat.le_refl _) (by simp [maxLen]) rfl) ⟨b,0,none⟩ n c P.row rfl ?_ ?_ ?_ ?_ ?_ ?_ ?_)
 ·rw [Pl.aOv,HN.o]
 ·intro j u hu;obtain ⟨hj,rfl⟩:=kU hu;rw [dN,Nat.zero_add];have h2:=HP.o (j / 25) (by omega) (j % 25) (by omega);rw [show j / 25*25+j % 25=j by omega] at h2;exact ((Only.refl [] w).alloc _).cell h2 (by simp)
 ·intro u hu;simp only [Pl.row,List.mem_map] at hu;obtain ⟨x,_,rfl⟩:=hu;exact Pg.at_one _ _
 ·simp [maxLen];omega
 ·omega
 ·simp
 intro v w1 hv ho h0 y;have HO:=aA ho;have HV:=aA hv;have x2:=aA h0;have HB:=aA y;clear ho hv h0 y;go_wp2_with fail;have hv:=HV.o;rcases hv.2 with ⟨hz,z⟩|⟨g,cap,x1,h4,hg,hh,x4,hm,hs,ht⟩
 ·omega
 have d:∀ x,x<P.n*25->w1.cell? ⟨g,x,none⟩=some ((P.pg (x / 25)).at (x % 25)):=by
  intro x hx;have h3:=World.ownsRow.cells hv (g:=g) (by rw [h4];rfl) x ((P.pg (x / 25)).at (x % 25)) (by simp [Pl.row,hx]);rw [dN,Nat.zero_add] at h3;exact h3
 refine hR.o _ _ ⟨g,cap,by rw [h4];rfl,⟨232,x1.toList,by unfold Row;rw [hh]⟩,fun i hi r hr=>?_,?_,hg⟩
 ·rw [d (i*25+r) (by omega)];congr 2
  ·congr 1;omega
  omega
 exact ((Only.refl [] w).alloc _).grown HO.o (fun k hk=>by
  right;simp [Value.ownBlock] at hk;omega)
theorem sW (w:World) (p b:Nat) (P:Pl) (h:dQ w p b P) :
  Calls prog 136 #[.pointer (some ⟨p,0,none⟩)] w fun e w'=>
   ∃ p' b',e=.returned (.pointer (some ⟨p',0,none⟩))/\dQ w' p' b' P/\Only [] w w'/\w.heap.size<=p'/\w.heap.size<=b':=by
 refine aF fun R hR=>?_;obtain ⟨cap,z0,zf,h2,_⟩:=h.facts;have H:=aA h;clear h;go_in;go_wp2_with fail;refine (jC _ _ _ _ H.o).mono ?_;rintro e _ ⟨rfl,rfl⟩;go_wp2_with fail;refine (aIi w b P.n cap P rfl H.o.n24 H.o.pg H.o.n1).mono ?_;rintro e w2 ⟨g,d,rfl,y,z,ho,hg⟩;have qR:=aA y;have h0:=aA z;clear y z;go_wp2;refine hR.o _ _ ⟨w2.heap.size,g,rfl,?_,ho.alloc _,ho.size,hg⟩;have h1:g<w2.heap.size:=by obtain ⟨T,cs,hc⟩:=qR.o;exact hc.lt
 refine ⟨⟨_,d,Row.new w2 _ [_]⟩,?_,fun i hi=>?_,by omega,H.o.n1,H.o.n24,H.o.ok⟩
 ·obtain ⟨T,cs,hc⟩:=qR.o;exact ⟨T,cs,hc.alloc _⟩
 exact (h0.o i hi).only ((Only.refl [] w2).alloc _) (by simp)
theorem aJO (w:World) (p b:Nat) (P:Pl) (h:dQ w p b P) :
  Calls prog 64 #[.pointer (some ⟨p,0,none⟩)] w fun e w'=>e=.returned (.int .i64 (P.moves:Int))/\Only [] w w':=by
 refine aF fun R hR=>?_;have h3:=h.n24;have h5:=P.aMt;have H:=aA h;clear h;go_in;go_wp2_with fail;refine (sW _ _ _ _ H.o).mono ?_;rintro e w2 ⟨q,g,rfl,z,ho,h6,h7⟩;go_wp2;go_loopw [3] (fun v3 wr=>∃ (m:Nat) (Q:Pl),v3=.int .i64 m/\m+Q.moves=P.moves/\dQ wr q g Q/\Only [] w wr) (fun v3 _=>P.moves - (intOf v3).toNat)
 case atStart=>exact ⟨0,P,rfl,by omega,z,ho⟩
 case round=>
  clear z ho;obtain ⟨m,Q,rfl,hm,z,ho⟩:=hrel;have h2:m<=P.moves:=by omega
  have HM:=aA hm;clear hm
  cases d:Q.pair with
  | none=>
   have y:=dF wr q g Q z d;have hN:Hid (P.moves=m):=by have:=HM.o;rw [Pl.aAT d] at this;show _=_;omega
   clear d;go_wp2_with fail;go_fit y;rintro e w3 ⟨rfl,hd⟩;go_wp2;exact hR.o _ _ ⟨by rw [hN.o];rfl,ho.trans (hd.only []) (by simp)⟩
  | some x=>
   obtain ⟨i,j⟩:=x;have y:=dK wr q g Q z i j d;have hN:Hid (m+1+(Q.moved i j).moves=P.moves):=by have:=HM.o;rw [Pl.aHk z.ok d] at this;show _=_;omega
   have h4:m+1<=P.moves:=by have:=hN.o;omega
   generalize ((16*i+(Q.pg i).top (Q.pg i).cls*bsz (Q.pg i).cls:Nat):Int)=v1 at y;generalize ((16*j+(Q.pg j).gap (Q.pg j).cls*bsz (Q.pg i).cls:Nat):Int)=v2 at y;clear d;go_wp2_with fail;go_fit y;rintro e w3 ⟨rfl,h0,h1⟩;go_wp2;exact ⟨⟨m+1,Q.moved i j,by go_num,hN.o,h0,ho.trans h1 (fun x hx=>.inr (by simp at hx;omega))⟩,by simp [intOf];omega⟩
def Pg.nought:Pg:={ cls:=0,used:=fun _=>false,cell:=fun _=>0 }
theorem aCY:yJ.cells.toList=(List.range 25).map Pg.nought.at:=by rfl
theorem aJR {n x:Nat} (hx:x<n*25):(madeCells yJ.cells (n*25)).toList[x]?=some (Pg.nought.at (x % 25)):=by
 have y:yJ.cells.size=25:=rfl;have z:∀ r,r<25->yJ.cells[r]?=some (Pg.nought.at r):=by
  intro r e;rw [<-Array.getElem?_toList,aCY];simp [e]
 have d:=z (x % 25) (by omega);rw [Array.getElem?_toList];unfold madeCells;rw [Array.getElem?_map,show (Array.range (n*25))[x]?=some x by simp [hx]];simp only [Option.map_some,y];rw [getElem!_def,d]
def aRa (w:World) (b:Nat):Prop:=∃ T cs,Row w b T cs
theorem aHp {w:World} {ops:Array Oper} {d:List Oper} {o:Oper} {a:Act} {Q:Exit->Act->World->Prop} (h4:o.guard=none) (x y:Operand)
  (ho:o.op=Op.makeSlice 227 x y) (n:Nat) (hl:a.eval x=.int .i64 n) (hc:a.eval y=.int .i64 n) (hn:n<=24) (h1:1<=n)
  (h:∀ w',aRa w' w.heap.size->Hid (∀ x,x<n*25->w'.cell? ⟨w.heap.size,x,none⟩=some (Pg.nought.at (x % 25)))->Only [] w w'->wpList prog ops Q d (a.put o.dst (.slice (some ⟨w.heap.size,0,none⟩) n n)) w'):wpList prog ops Q (o :: d) a w:=by
 obtain ⟨i0,hi,h5,h6,h7⟩:=info_parts aFY;refine wpList_make_full w h4 x y 227 ho w.heap.size 232 i0 yJ 25 Tryz.underlying227 hi h5 h6 .i64 .i64 n n n hl hc rfl rfl (by rw [h7];omega) (by simp only [maxLen];omega) (Nat.le_refl _) (fun w2 z e=>h w2 ?_ ?_ ?_)
 ·rcases z.2 with ⟨hz,_⟩|⟨g,cap,h2,h0,hg,hh,_⟩
  ·simp at hz
  simp only [Value.slice.injEq,Option.some.injEq,Addr.mk.injEq] at h0;obtain ⟨⟨rfl,_⟩,_⟩:=h0;exact ⟨232,h2.toList,by unfold Row;rw [hh]⟩
 ·intro x hx;have h3:=World.ownsRow.cells z (g:=w.heap.size) rfl x (Pg.nought.at (x % 25)) (aJR hx);rwa [dN,Nat.zero_add] at h3
 exact (Only.refl _ _).grown e (fun k hk=>by simp at hk)
theorem aOL (w:World) (n:Int) (h:n<1\/24<n) :
  Calls prog 163 #[.int .i64 n] w (aO w (.tuple #[.pointer none,.int .i64 1])):=by
 refine aF fun R y=>?_
 by_cases z:n<1
 ·go_in;go_wp2;exact y.o _ _ ⟨rfl,rfl⟩
 have e:24<n:=by omega
 have d:decide (n<1)=false:=by simpa using z
 clear h;go_in;go_wp2;exact y.o _ _ ⟨rfl,rfl⟩
theorem aOK (w:World) (n:Nat) (h1:1<=n) (h4:n<=24) :
  Calls prog 163 #[.int .i64 n] w fun e w'=>
   ∃ p b,e=.returned (.tuple #[.pointer (some ⟨p,0,none⟩),.int .i64 0])/\dQ w' p b (Pl.zero n)/\Only [] w w'/\w.heap.size<=p/\w.heap.size<=b:=by
 refine aF fun R hR=>?_;have x4:decide ((n:Int)<1)=false:=by simp;omega
 have x5:decide (24<(n:Int))=false:=by simp;omega
 go_in;go_wp2_with (refine aHp rfl _ _ rfl n rfl rfl h4 h1 ?_)
 ·intro z d y ho;have h0:=y.o;clear y;have x7:w.heap.size<z.heap.size:=by obtain ⟨T,cs,hc⟩:=d;exact hc.lt
  generalize h7:w.heap.size=g at*;have HG:=aA h7;have h3:(∃ T cs,Row (z.alloc (.cells #[.slice (some ⟨g,0,none⟩) n n] 234)) g T cs)/\(∀ i,i<n->gQ (z.alloc (.cells #[.slice (some ⟨g,0,none⟩) n n] 234)) g (i*25) Pg.nought)/\
    Row (z.alloc (.cells #[.slice (some ⟨g,0,none⟩) n n] 234)) z.heap.size 234 [.slice (some ⟨g,0,none⟩) n n]/\Only [] w (z.alloc (.cells #[.slice (some ⟨g,0,none⟩) n n] 234)):=by
   refine ⟨?_,fun i hi=>?_,Row.new _ _ _,ho.alloc _⟩
   ·obtain ⟨T,cs,hc⟩:=d;exact ⟨T,cs,hc.alloc _⟩
   intro r hr;have h5:=((Only.refl [] z).alloc (.cells #[.slice (some ⟨g,0,none⟩) n n] 234)).cell (h0 (i*25+r) (by omega)) (by simp);rw [show (i*25+r) % 25=r by omega] at h5;exact h5
  have x3:=aA h3;have x8:z.heap.size≠g:=by omega
  have z0:(z.alloc (.cells #[.slice (some ⟨g,0,none⟩) n n] 234)).cell? ⟨z.heap.size,0,none⟩=some (.slice (some ⟨g,0,none⟩) n n):=h3.2.2.1.cell 0 rfl;clear d h0 ho h3 h7;go_wp2_with fail;generalize h8:z.heap.size=p at*;have x2:=aA h8;generalize z.alloc (.cells #[.slice (some ⟨g,0,none⟩) n n] 234)=w3 at*;clear h8 z0;go_loopw [21] (fun v wr=>∃ k:Nat,k<=n/\v=.int .i64 k/\(∃ T cs,Row wr g T cs)/\(∀ i,i<n->gQ wr g (i*25) (if i<k then Pg.zero else Pg.nought))/\Row wr p 234 [.slice (some ⟨g,0,none⟩) n n]/\Only [] w wr) (fun v _=>n - (intOf v).toNat)
  case atStart=>
   obtain ⟨s1,s2,s3,s4⟩:=x3.o;exact ⟨0,by omega,rfl,s1,fun i hi=>by simp only [Nat.not_lt_zero,if_false];exact s2 i hi,s3,s4⟩
  case round=>
   obtain ⟨k,hk,rfl,s1,s2,s3,s4⟩:=hrel;have z0:=s3.cell 0 rfl;have zf:∀ x,wr.frozen? ⟨g,x,none⟩=false:=by obtain ⟨T,cs,hc⟩:=s1;exact hc.free
   by_cases h9:k<n
   ·have h2:=s2 k h9;simp only [Nat.lt_irrefl,if_false] at h2;have x6:=h2.cls;have S1:=aA s1;have S2:=aA s2;have x1:=aA h2;clear s1 s2 h2;go_wp2;refine ⟨⟨k+1,by omega,by go_num,?_,fun i hi=>?_,s3.other (by simp;omega) _,s4.set (.inr (by have:=HG.o;simp;omega)) _⟩,by simp [intOf];omega⟩
    ·obtain ⟨T,cs,hc⟩:=S1.o;exact ⟨T,_,hc.set _ _⟩
    by_cases e:i=k
    ·subst e;rw [if_pos (by omega)];exact x1.o.aJm (-1)
    have h5:=(S2.o i hi).other (a:=⟨g,k*25,none⟩) (.int .i64 (-1)) (fun _ _=>by simp;omega)
    by_cases h6:i<k
    ·rw [if_pos (by omega)];rw [if_pos h6] at h5;exact h5
    rw [if_neg (by omega)];rw [if_neg h6] at h5;exact h5
   obtain rfl:k=n:=by omega
   have S1:=aA s1;have S2:=aA s2;clear s1 s2;go_wp2;refine hR.o _ _ ⟨p,g,rfl,⟨⟨_,_,s3⟩,S1.o,fun i hi=>?_,by omega,h1,h4,Pl.aBv _⟩,s4,by have:=HG.o;have:=x2.o;omega,by have:=HG.o;omega⟩;have h5:=S2.o i hi;rw [if_pos (show i<k from hi)] at h5;exact h5
theorem aFl (w:World) (p b:Nat) (P:Pl) (h:dQ w p b P) (i:Int) :
  Calls prog 310 #[.pointer (some ⟨p,0,none⟩),.int .i64 i] w (aO w (.tuple #[.int .i64 (P.class i).1,.int .i64 (P.class i).2])):=by
 refine aF fun R y=>?_;obtain ⟨cap,z0,zf,h6,_⟩:=h.facts;have h4:=h.n24
 by_cases z:i<0
 ·rw [show P.class i=(0,1) by unfold Pl.class;rw [if_pos (.inl z)]] at y;have d:decide (i<0)=true:=by simpa using z
  go_in;go_wp2_with fail;refine (jC _ _ _ _ h).mono ?_;rintro e _ ⟨rfl,rfl⟩;go_wp2;exact y.o _ _ ⟨rfl,rfl⟩
 have d:decide (i<0)=false:=by simpa using z
 obtain ⟨I,rfl⟩:∃ I:Nat,i=I:=⟨i.toNat,by omega⟩
 by_cases h1:P.n<=I
 ·rw [show P.class (I:Int)=(0,1) by unfold Pl.class;rw [if_pos (.inr (by omega))]] at y;go_in;go_wp2_with fail;refine (jC _ _ _ _ h).mono ?_;rintro e _ ⟨rfl,rfl⟩;go_wp2;exact y.o _ _ ⟨rfl,rfl⟩
 have h3:decide (P.n<=I)=false:=by simpa using h1
 have h2:I<P.n:=by omega
 have h5:=(h.pg I h2).cls;rw [show P.class (I:Int)=((P.pg I).cls,0) by unfold Pl.class;rw [if_neg (by omega)];simp] at y;have H:=aA h;clear h h1;go_in;go_wp2_with fail;refine (jC _ _ _ _ H.o).mono ?_;rintro e _ ⟨rfl,rfl⟩;go_wp2;exact y.o _ _ ⟨rfl,rfl⟩
def sP0:Pl:=Pl.zero 2
def sP1:Pl:=(sP0.alloc 2).2.2
def sP2:Pl:=(sP1.alloc 2).2.2
def sP3:Pl:=(sP2.alloc 2).2.2
def sP4:Pl:=(sP3.free 0).2
theorem s1:(sP0.alloc 2).1=0/\(sP0.alloc 2).2.1=0:=by decide+kernel
theorem s2:(sP1.alloc 2).1=8/\(sP1.alloc 2).2.1=0:=by decide+kernel
theorem s3:(sP2.alloc 2).1=16/\(sP2.alloc 2).2.1=0:=by decide+kernel
theorem s4:(sP3.free 0).1=0:=by decide+kernel
theorem s5:sP4.move.1=16/\sP4.move.2.1=0/\sP4.move.2.2.1=0:=by decide+kernel
end Go.Proofs.YthflghdaejbdkaaGreat
namespace Go.Proofs.YthflghdaejbdkaaGreat
open _root_.Go.Proofs.Tryz (prog)
set_option linter.unusedVariables false
section
variable {P0 P:Pl} {B:Int->Prop}
end
theorem aGR {M:Hp} {h:Int} {o:Th} (z:M.ob h=some o) (y:M.held h=false):M.release h=(0,M.drop h o):=by
 unfold Hp.release;rw [z];show (if M.held h=true then _ else _)=_;rw [y];rfl
end Go.Proofs.YthflghdaejbdkaaGreat
namespace Go.Proofs.YthflghdaejbdkaaGreat
open _root_.Go.Proofs.Tryz (prog)
open Go.RowKit
def aN (w:World) (base:Nat) (v:Value) (l:List Int):Prop:=w.ownsRow base 3 1 v l.length (l.map (Value.int .i64))
theorem jO:(prog.info? 3).map (fun i=>(i.zero,i.size,i.bytes))=some (some (.int .i64 0),1,8):=by kernel_rfl
theorem aN.nil (w:World) (base:Nat):aN w base (.slice none 0 0) []:=World.ownsRow_nil _ _ _ _
theorem aN.drewN {w:World} {base:Nat} {v:Value} {l:List Int} (h:aN w base v l) (n:Nat):aN (w.drewN n) base v l:=h
theorem aN.drew {w:World} {base:Nat} {v:Value} {l:List Int} (h:aN w base v l):aN w.drew base v l:=h
theorem aN.alloc {w:World} {base:Nat} {v:Value} {l:List Int} (h:aN w base v l) (o:Obj):aN (w.alloc o) base v l:=World.ownsRow.alloc h o
theorem aN.base {w:World} {base b:Nat} {v:Value} {l:List Int} (h:aN w base v l) (hb:b<=base):aN w b v l:=by
 refine ⟨h.1,?_⟩;rcases h.2 with z|⟨g,cap,y,e,d,r⟩
 ·exact .inl z
 exact .inr ⟨g,cap,y,e,Nat.le_trans hb d,r⟩
theorem aN.form {w:World} {base:Nat} {v:Value} {l:List Int} (h:aN w base v l) :
  (v=.slice none 0 0/\l=[])\/∃ g cap,v=.slice (some ⟨g,0,none⟩) l.length cap/\base<=g/\g<w.heap.size/\l.length<=cap/\(∀ i,i<l.length->w.cell? ⟨g,i,none⟩=some (.int .i64 (gI l i))):=by
 rcases h.2 with ⟨z,d⟩|⟨g,cap,h0,y,hg,hh,hc,hm,hs,ht⟩
 ·exact .inl ⟨z,List.eq_nil_of_length_eq_zero d⟩
 refine .inr ⟨g,cap,y,hg,(Array.getElem?_eq_some_iff.1 hh).1,hc,fun i hi=>?_⟩;have e:=World.ownsRow.cells h (g:=g) (by rw [y];rfl) i (.int .i64 (gI l i)) (by simp [hi,gI]);rwa [show (⟨g,0,none⟩:Addr).add i=⟨g,i,none⟩ by unfold Addr.add;split<;>simp_all] at e
theorem aN.len {w:World} {base:Nat} {v:Value} {l:List Int} (h:aN w base v l):∃ a cap,v=.slice a l.length cap:=by
 rcases h.form with ⟨y,z⟩|⟨g,cap,y,_⟩
 ·exact ⟨none,0,by rw [y,z];rfl⟩
 exact ⟨_,cap,y⟩
theorem aN.only {w w':World} {base:Nat} {v:Value} {l:List Int} {F:List Nat} (h:aN w base v l) (hg:Only F w w') (hF:∀ k,v.ownBlock=some k->k∉F):aN w' base v l:=by
 refine ⟨h.1,?_⟩;rcases h.2 with e|⟨g,cap,y,d,hb,z,r⟩
 ·exact .inl e
 exact .inr ⟨g,cap,y,d,hb,by rw [hg.block g (Array.getElem?_eq_some_iff.1 z).1 (hF g (by rw [d];rfl))];exact z,r⟩
theorem aN.own {w:World} {base:Nat} {v:Value} {l:List Int} (h:aN w base v l):∀ k,v.ownBlock=some k->base<=k/\k<w.heap.size:=World.ownsRow.lt h
theorem gW {w:World} {ops:Array Oper} {e:List Oper} {o:Oper} {a:Act} {Q:Exit->Act->World->Prop} (h7:o.guard=none) (s x:Operand)
  (ho:o.op=.call { callee:=.builtin .append,args:=#[s,x],argTypes:=#[23,23] })
  (base:Nat) (v:Value) (l:List Int) (hs:a.eval s=v) (h6:aN w base v l)
  (ad:Addr) (m c:Nat) (z:List Int) (hx:a.eval x=.slice (some ad) m c) (hl:z.length=m) (h4:∀ j u,z[j]?=some u->w.cell? (ad.add j)=some (.int .i64 u))
  (d:(l.length+m)*8<=140737488355328) (h0:base<=w.heap.size)
  (h:∀ v' w',aN w' base v' (l ++ z)->Only v.ownBlock.toList w w'->(v'=.slice none 0 0↔v=.slice none 0 0/\m=0)->(v'.ownBlock=v.ownBlock\/v'.ownBlock=some w.heap.size)->wpList prog ops Q e (a.put o.dst v') w'):wpList prog ops Q (o :: e) a w:=by
 obtain ⟨i0,hi,h8,h9,x1⟩:=info_parts jO;refine bV h7 s x 23 ho base 3 i0 (.int .i64 0) 1 8 Tryz.underlying23 hi h8 h9 x1 rfl (by decide) v l.length _ hs h6 ad m c (z.map (Value.int .i64)) hx (by simp [hl])
  (fun j u hu=>?_) (fun u hu=>?_) (by simp only [maxLen];omega) d h0 (fun v' w' h1 h2 h3 h5=>h v' w' ?_ ?_ h3 h5)
 ·simp only [List.getElem?_map,Option.map_eq_some_iff] at hu;obtain ⟨y,hy,rfl⟩:=hu;exact h4 j y hy
 ·simp only [List.mem_map] at hu;obtain ⟨y,_,rfl⟩:=hu;rfl
 ·unfold aN;rw [List.length_append,hl,List.map_append];exact h1
 exact (Only.refl _ _).grown h2 (fun k hk=>.inl (by rw [hk];simp))
theorem oL {w:World} {ops:Array Oper} {e:List Oper} {o:Oper} {a:Act} {Q:Exit->Act->World->Prop} (h4:o.guard=none) (s x:Operand)
  (ho:o.op=.call { callee:=.builtin .append,args:=#[s,x],argTypes:=#[23,23] })
  (base:Nat) (v:Value) (l:List Int) (hs:a.eval s=v) (z:aN w base v l)
  (oa:Option Addr) (m c:Nat) (y:List Int) (hx:a.eval x=.slice oa m c) (h6:oa=none->m=0/\c=0) (hl:y.length=m) (h3:∀ ad,oa=some ad->∀ j u,y[j]?=some u->w.cell? (ad.add j)=some (.int .i64 u))
  (d:(l.length+m)*8<=140737488355328) (h0:base<=w.heap.size)
  (h:∀ v' w',aN w' base v' (l ++ y)->Only v.ownBlock.toList w w'->(v'.ownBlock=v.ownBlock\/v'.ownBlock=some w.heap.size)->wpList prog ops Q e (a.put o.dst v') w'):wpList prog ops Q (o :: e) a w:=by
 cases oa with
 | some ad=>exact gW h4 s x ho base v l hs z ad m c y hx hl (h3 ad rfl) d h0 (fun v' w' h1 h2 _ h5=>h v' w' h1 h2 h5)
 | none=>
  obtain ⟨rfl,rfl⟩:=h6 rfl;have:y=[]:=List.eq_nil_of_length_eq_zero hl;subst this;obtain ⟨i0,hi,h7,h8,h9⟩:=info_parts jO;refine wpList_append_own_none h4 s x 23 ho base 3 i0 1 Tryz.underlying23 hi v l.length _ hs z hx (h v w (by simpa using z) (Only.refl _ _) (.inl rfl))
theorem bH {w:World} {ops:Array Oper} {z:List Oper} {o:Oper} {a:Act} {Q:Exit->Act->World->Prop} (h4:o.guard=none) (s x:Operand)
  (ho:o.op=.call { callee:=.builtin .append,args:=#[s,x],argTypes:=#[23,23] })
  (base:Nat) (v:Value) (l:List Int) (hs:a.eval s=v) (h0:aN w base v l)
  (b:Nat) (y:Int) (hx:a.eval x=.slice (some ⟨b,0,none⟩) 1 1) (e:w.cell? ⟨b,0,none⟩=some (.int .i64 y))
  (h3:l.length+1<=17592186044416) (d:base<=w.heap.size)
  (h:∀ v' w',aN w' base v' (l ++ [y])->Only v.ownBlock.toList w w'->(v'.ownBlock=v.ownBlock\/v'.ownBlock=some w.heap.size)->wpList prog ops Q z (a.put o.dst v') w'):wpList prog ops Q (o :: z) a w:=by
 refine gW h4 s x ho base v l hs h0 ⟨b,0,none⟩ 1 1 [y] hx rfl (fun j u hu=>?_) (by omega) d (fun v' w' h1 h2 _ h5=>h v' w' h1 h2 h5)
 cases j with
 | zero=>simp at hu;subst hu;exact e
 | succ j=>simp at hu
theorem zA (n:Nat):(madeCells (Value.int .i64 0).cells (n*1)).toList=List.replicate n (Value.int .i64 0):=by
 apply List.ext_getElem
 ·simp [madeCells]
 intro i y z;simp [madeCells,Value.cells,Nat.mod_one]
theorem aN.made (w:World):aN (w.alloc (.cells #[] 3)) w.heap.size (.slice (some ⟨w.heap.size,0,none⟩) 0 0) []:=
 World.ownsRow_made w #[] 0 (Nat.le_refl _) (by simp [maxLen]) rfl
set_option maxHeartbeats 400000 in
theorem aIE (w:World):Calls prog 80 #[.slice none 0 0] w (aO w (.slice none 0 0)):=by
 have d:=fun (z:World)=>Lib.run_eql_slice_nil (P:=prog) z 23 3 none 0 0 0 0 Tryz.underlying23;refine aF fun R y=>?_;go_in;go_wp2;exact y.o _ _ ⟨rfl,rfl⟩
set_option maxHeartbeats 400000 in
theorem aBl (w:World) (b n c:Nat) (l:List Int) (hl:l.length=n) (y:n<=17592186044416) (hc:∀ i,i<n->w.cell? ⟨b,i,none⟩=some (.int .i64 (gI l i))) :
  Calls prog 80 #[.slice (some ⟨b,0,none⟩) n c] w fun e w'=>∃ v,e=.returned v/\aN w' w.heap.size v l/\Only [] w w'/\v≠.slice none 0 0:=by
 have hq:=fun (wx:World)=>Lib.run_eql_slice_nil (P:=prog) wx 23 3 (some ⟨b,0,none⟩) n c 0 0 Tryz.underlying23;have z:=aA hl;have HC:=aA hc;clear hl hc;refine aF fun R hR=>?_;go_in;go_wp2_with (at_builtin;refine gW rfl _ _ rfl w.heap.size _ _ rfl (aN.made w) ⟨b,0,none⟩ n c l rfl ?_ ?_ ?_ ?_ ?_)
 ·exact z.o
 ·intro j u hu;have hj:j<n:=by have:=(List.getElem?_eq_some_iff.1 hu).1;have:=z.o;omega
  have d:=HC.o j hj;rw [show (⟨b,0,none⟩:Addr).add j=⟨b,j,none⟩ by unfold Addr.add;split<;>simp_all]
  rw [World.cell?_alloc_past _ _ _ (World.block_lt_of_cell? w _ d),d,gI,hu];rfl
 ·simp;omega
 ·simp
 intro v w1 hv ho y h0;have HN:Hid (v≠.slice none 0 0):=by intro e;simp [e] at y
 clear y;go_wp2;exact hR.o _ _ ⟨v,rfl,hv,((Only.refl _ _).alloc _).trans ho (fun x hx=>.inr (by simp [Value.ownBlock] at hx;omega)),HN.o⟩
set_option linter.unusedVariables false
def mY (w:World) (v:Value) (l:List Int):Prop:=
 (∃ b o c,v=.slice (some ⟨b,o,none⟩) l.length c/\∀ i,i<l.length->w.cell? ⟨b,o+i,none⟩=some (.int .i64 (gI l i)))\/(∃ oa c,v=.slice oa 0 c/\l=[])
theorem aN.read {w:World} {base:Nat} {v:Value} {l:List Int} (h:aN w base v l):mY w v l:=by
 rcases h.form with ⟨y,z⟩|⟨g,cap,y,_,_,_,z⟩
 ·exact .inr ⟨none,0,y,z⟩
 exact .inl ⟨g,0,cap,y,fun i d=>by rw [Nat.zero_add];exact z i d⟩
theorem mY.len {w:World} {v:Value} {l:List Int} (h:mY w v l):∃ a c,v=.slice a l.length c:=by
 rcases h with ⟨b,o,c,y,_⟩|⟨d,c,y,z⟩
 ·exact ⟨_,_,y⟩
 exact ⟨d,c,by rw [y,z];rfl⟩
theorem mY.only {w w':World} {v:Value} {l:List Int} {F:List Nat} (h:mY w v l) (ho:Only F w w') (d:∀ k,v.ownBlock=some k->k∉F):mY w' v l:=by
 rcases h with ⟨b,o,c,y,z⟩|y
 ·exact .inl ⟨b,o,c,y,fun i e=>ho.cell (z i e) (d b (by rw [y];rfl))⟩
 exact .inr y
theorem mY.lt {w:World} {v:Value} {l:List Int} (h:mY w v l) (y:0<l.length) {k:Nat} (e:v.ownBlock=some k):k<w.heap.size:=by
 rcases h with ⟨b,o,c,d,z⟩|⟨oa,c,d,z⟩
 ·rw [d] at e;cases e;exact World.block_lt_of_cell? w _ (z 0 y)
 rw [z] at y;simp at y
set_option maxHeartbeats 1600000
set_option maxRecDepth 100000
open Go.Maps Go.WideShapes in
section
theorem lH {α:Type}:∀ {y l2:List α},y.Nodup->(∀ x∈y,x∈l2)->y.length<=l2.length/\(l2.length<=y.length->∀ x∈l2,x∈y)
 | [],l2,_,_=>⟨by simp,fun h x hx=>by cases l2 with|nil=>exact hx|cons a r=>simp at h⟩
 | a :: r,l2,hn,hs=>by
  obtain ⟨d,h2⟩:=List.nodup_cons.1 hn;obtain ⟨s,t,rfl⟩:=List.append_of_mem (hs a (by simp));have h3:∀ x∈r,x∈s ++ t:=fun x hx=>by
   have:=hs x (List.mem_cons_of_mem _ hx);simp only [List.mem_append,List.mem_cons] at this ⊢;rcases this with h|h|h
   ·exact .inl h
   ·subst h;exact absurd hx d
   exact .inr h
  obtain ⟨h4,z⟩:=lH h2 h3;simp only [List.length_append,List.length_cons] at h4 z ⊢;refine ⟨by omega,fun h x hx=>?_⟩
  by_cases e:x=a
  ·rw [e];simp
  refine List.mem_cons_of_mem _ (z (by omega) x ?_);simp only [List.mem_append,List.mem_cons] at hx ⊢;rcases hx with h|h|h
  ·exact .inl h
  ·exact absurd h e
  exact .inr h
def aJZ {H:Type}:DataW H->List Lit|.map es=>es.map Prod.fst|_=>[]
theorem sF {H:Type} {D:DataW H} (c:Canon D):(aJZ D).length=Maps.size D:=by obtain ⟨y,rfl,_⟩:=c;simp [aJZ,Maps.size]
theorem qH {H:Type} {D:DataW H} (c:Canon D):(aJZ D).Nodup:=by
 obtain ⟨y,rfl,h,_⟩:=c;exact List.pairwise_map.2 (apart_of_rising h)
theorem lM {H:Type} {D:DataW H} (c:Canon D) (k:Lit):k∈aJZ D↔Maps.has D k=true:=by
 obtain ⟨d,rfl,_,h⟩:=c;constructor
 ·intro z;obtain ⟨p,y,rfl⟩:=List.mem_map.1 z;exact List.any_eq_true.2 ⟨p,y,WideAt.sameKey_self (h p y)⟩
 intro z;obtain ⟨p,y,hs⟩:=List.any_eq_true.1 z;exact List.mem_map.2 ⟨p,y,WideAt.sameKey_eq hs⟩
theorem aLX {H:Type} {z y:DataW H} (d:Canon z) (e:Canon y) (h:∀ k,Maps.has z k=true->Maps.has y k=true) :
  Maps.size z<=Maps.size y/\(Maps.size y<=Maps.size z->∀ k,Maps.has y k=true->Maps.has z k=true):=by
 have h1:=lH (qH d) (l2:=aJZ y) (fun x hx=>(lM e x).2 (h x ((lM d x).1 hx)));rw [sF d,sF e] at h1;exact ⟨h1.1,fun hs k hk=>(lM d k).1 (h1.2 hs k ((lM e k).2 hk))⟩
theorem qE {H:Type} {R:Value->Option (DataW H×List MemPlace)} {w:World} {b n:Nat} {D:DataW H} (h:w.ownsMap prog 3 R b n D) {k:Lit} (hk:Maps.has D k=true):∃ x,k=.int .i64 x/\(Lit.int .i64 x).wf=true:=by
 obtain ⟨es,h0,_,F,_,rfl⟩:=h;obtain ⟨p,hp,d⟩:=List.any_eq_true.1 hk;obtain ⟨x,hx,rfl⟩:=List.mem_map.1 (mem_sorted.1 hp);obtain ⟨y,hy⟩:=F.reads x hx;have h1:=WideAt.sameKey_eq d;rw [WideElems.rg_of hy] at h1;obtain ⟨z,_,e,hw⟩:=Maps.keyOf_int_inv Tryz.underlying3 (WideElems.rd_key hy);exact ⟨z,by rw [<-h1,e],hw⟩
end
end Go.Proofs.YthflghdaejbdkaaGreat
namespace Go.Proofs.YthflghdaejbdkaaGreat
open _root_.Go.Proofs.Tryz (prog)
open Go.RowKit Go.Maps
set_option maxHeartbeats 1600000
set_option maxRecDepth 100000
set_option linter.unusedVariables false
structure aI (S:Nat->Prop) (w w':World):Prop where
 os:w'.os=w.os
 tape:w'.tape=w.tape
 output:w'.output=w.output
 size:w.heap.size<=w'.heap.size
 block:∀ k,k<w.heap.size->¬ S k->w'.heap[k]?=w.heap[k]?
section
variable {S S':Nat->Prop} {a b w w':World}
theorem aI.refl (S:Nat->Prop) (w:World):aI S w w:=⟨rfl,rfl,rfl,Nat.le_refl _,fun _ _ _=>rfl⟩
theorem Only.toP {F:List Nat} (h:Only F w w') (y:∀ x∈F,S x\/w.heap.size<=x):aI S w w':=
 ⟨h.os,h.tape,h.output,h.size,fun k d z=>h.block k d (fun hm=>by rcases y k hm with h1|h1;exact z h1;omega)⟩
theorem Only.vU (h:Only [] w w'):aI S w w':=h.toP (by simp)
theorem aI.trans (h:aI S a b) (k:aI S' b w) (d:∀ x,S' x->S x\/a.heap.size<=x):aI S a w:=
 ⟨k.os.trans h.os,k.tape.trans h.tape,k.output.trans h.output,Nat.le_trans h.size k.size,fun i z y=>by
  rw [k.block i (Nat.lt_of_lt_of_le z h.size) (fun e=>by rcases d i e with h1|h1;exact y h1;omega)];exact h.block i z y⟩
theorem aI.mono (h:aI S w w') (y:∀ x,S x->S' x\/w.heap.size<=x):aI S' w w':=(aI.refl S' w).trans h y
theorem aI.drew (h:aI S a w):aI S a w.drew:=⟨h.os,h.tape,h.output,h.size,h.block⟩
theorem aI.drewN (h:aI S a w) (n:Nat):aI S a (w.drewN n):=⟨h.os,h.tape,h.output,h.size,h.block⟩
theorem aI.set (h:aI S a w) {p:Addr} (y:S p.block\/a.heap.size<=p.block) (v:Value):aI S a (w.setCell p v):=
 ⟨h.os,h.tape,h.output,by simpa [World.setCell] using h.size,fun k d z=>by
  rw [Below.heap_setCell _ _ _ _ (by rintro rfl;rcases y with y|y;exact z y;omega)];exact h.block k d z⟩
theorem aI.alloc (h:aI S a w) (o:Obj):aI S a (w.alloc o):=
 ⟨h.os,h.tape,h.output,by have:=h.size;simp;omega,fun k y z=>by rw [Below.heap_alloc _ _ _ (Nat.lt_of_lt_of_le y h.size)];exact h.block k y z⟩
theorem aI.row (h:aI S w w') {b T:Nat} {cs:List Value} (y:Row w b T cs) (hb:¬ S b):Row w' b T cs:=by
 have:=y.lt;unfold Row at*;rw [h.block b this hb];exact y
theorem aI.cell (h:aI S w w') {a:Addr} {v:Value} (y:w.cell? a=some v) (d:¬ S a.block):w'.cell? a=some v:=by
 have z:=World.block_lt_of_cell? w _ y;simp only [World.cell?] at y ⊢;rw [h.block a.block z d];exact y
theorem aI.grown (h:aI S a w) {z:Option Nat} (y:w.grownBy w' z) (hr:∀ k,z=some k->S k\/a.heap.size<=k):aI S a w':=
 ⟨y.os.trans h.os,y.tape.trans h.tape,y.output.trans h.output,Nat.le_trans h.size y.size,fun k hk d=>by
  rw [y.block k (Nat.lt_of_lt_of_le hk h.size) (fun e=>by rcases hr k e.symm with h1|h1;exact d h1;omega)];exact h.block k hk d⟩
theorem aI.setCells (h:aI S a w) {b:Nat} (z:S b\/a.heap.size<=b):∀ (y:List Value) (o:Nat),aI S a (w.setCells b o y):=by
 intro y
 induction y generalizing w with
 | nil=>intro o;exact h
 | cons v r d=>intro o;exact d (h.set (p:=⟨b,o,none⟩) z v) (o+1)
theorem aN.dB {base:Nat} {v:Value} {l:List Int} (h:aN w base v l) (hg:aI S w w') (hF:∀ k,v.ownBlock=some k->¬ S k):aN w' base v l:=by
 refine ⟨h.1,?_⟩;rcases h.2 with e|⟨g,cap,y,d,hb,z,r⟩
 ·exact .inl e
 exact .inr ⟨g,cap,y,d,hb,by rw [hg.block g (Array.getElem?_eq_some_iff.1 z).1 (hF g (by rw [d];rfl))];exact z,r⟩
end
def mkP:Option Nat->Value|some b=>.pointer (some ⟨b,0,none⟩)|none=>.pointer none
def aLw:Option Nat->DataW Unit|some b=>.lit (.int .i64 b)|none=>.nil
def dV:Value->Option (DataW Unit×List MemPlace)
 | .pointer none=>some (.nil,[])
 | .pointer (some ⟨b,0,none⟩)=>some (.lit (.int .i64 b),[])
 | _=>none
theorem aHe (o:Option Nat):dV (mkP o)=some (aLw o,[]):=by cases o<;>rfl
theorem qC {v:Value} {y:DataW Unit×List MemPlace} (h:dV v=some y):∃ o,v=mkP o/\y=(aLw o,[]):=by
 unfold dV at h;split at h
 ·cases h;exact ⟨none,rfl,rfl⟩
 ·rename_i b;cases h;exact ⟨some b,rfl,rfl⟩
 cases h
theorem aCf {a b:Option Nat} (h:aLw a=aLw b):a=b:=by
 cases a<;>cases b<;>simp_all [aLw]
 omega
theorem aOQ {a b:Option Nat} (h:mkP a=mkP b):a=b:=by
 cases a<;>cases b<;>simp_all [mkP]
abbrev wfI (k:Int):Prop:=(Lit.int .i64 k).wf=true
theorem dI {k:Int} (h : -9223372036854775808<=k/\k<=9223372036854775807):wfI k:=WalkArith.wf_i64 h
theorem iE:Maps.Keyed prog 3:=Maps.int_keyed Tryz.underlying3
theorem aLt {k:Int} (h:wfI k):keyOf prog 3 (.int .i64 k)=some (.int .i64 k):=Maps.keyOf_int_mk Tryz.underlying3 h
theorem zD (k:Int) (h:wfI k):WideAt.IsKeyLit (.int .i64 k):=iE.key (aLt h)
def dS (w:World) (y n:Nat) (f:Int->Option Nat):Prop:=
 ∃ D:DataW Unit,w.ownsMap prog 3 dV y n D/\∀ k,wfI k->Maps.has D (.int .i64 k)=(f k).isSome/\∀ b,f k=some b->∀ z,D.atKey (.int .i64 k) z=.lit (.int .i64 b)
theorem aIG (w:World):(zeroValue 172).run prog w=.ok (.pointer none) w:=by kernel_rfl
section
variable {w w':World} {mb n:Nat} {f:Int->Option Nat}
theorem dS.lt (h:dS w mb n f):mb<w.heap.size:=by obtain ⟨D,h,_⟩:=h;exact h.lt
theorem dS.only {S:Nat->Prop} (h:dS w mb n f) (hg:aI S w w') (hS:¬ S mb):dS w' mb n f:=by
 obtain ⟨D,d,hf⟩:=h;have z:=d.lt;obtain ⟨e,y,hb,r⟩:=d;exact ⟨D,⟨e,y,(hg.block mb z hS).trans hb,r⟩,hf⟩
theorem dS.mono (h:dS w mb n f) {m:Nat} (d:n<=m):dS w mb m f:=by
 obtain ⟨D,y,z⟩:=h;exact ⟨D,y.mono d,z⟩
theorem dS.look (h:dS w mb n f) {k:Int} (hk:wfI k):(Instr.lookup 173 (.map (some mb)) (.int .i64 k) false).run prog w=.ok (mkP (f k)) w:=by
 obtain ⟨D,hD,hf⟩:=h;obtain ⟨v,ps,z,hv⟩:=hD.lookup iE Tryz.underlying173 (aIG w) (zd:=.nil) (zp:=[]) rfl (aLt hk);obtain ⟨o,rfl,d⟩:=qC hv;rw [z];obtain ⟨e,h2⟩:=hf k hk
 cases y:f k with
 | none=>
  rw [y] at e;have h3:=Maps.atKey_of_not_has e (.nil:DataW Unit);rw [h3] at d;have:aLw o=aLw none:=(congrArg Prod.fst d).symm;rw [aCf this]
 | some b=>
  rw [h2 b y] at d;have:aLw o=aLw (some b):=(congrArg Prod.fst d).symm;rw [aCf this]
theorem dS.made (w:World):dS (w.alloc (.map #[] 0)) w.heap.size 0 (fun _=>none):=
 ⟨.map [],World.ownsMap_made _ _ _ _,fun k _=>⟨rfl,fun b h=>by cases h⟩⟩
theorem pW {j k:Int} (h:j≠k):Lit.int .i64 j≠Lit.int .i64 k:=fun e=>by cases e;exact h rfl
theorem dS.aOx {D:DataW Unit} (hm:Maps.IsMap D) (hf:∀ k,wfI k->Maps.has D (.int .i64 k)=(f k).isSome/\∀ b,f k=some b->∀ z,D.atKey (.int .i64 k) z=.lit (.int .i64 b)) {k:Int} (hk:wfI k) (b:Nat) :
  ∀ j,wfI j->Maps.has (D.put (.int .i64 k) (.lit (.int .i64 b))) (.int .i64 j)=((if j=k then some b else f j).isSome)/\∀ c,(if j=k then some b else f j)=some c->∀ z,(D.put (.int .i64 k) (.lit (.int .i64 b))).atKey (.int .i64 j) z=.lit (.int .i64 c):=by
 intro j y
 by_cases e:j=k
 ·subst e;rw [if_pos rfl];exact ⟨Maps.has_put_same hm (zD j y) _,fun c d z=>by cases d;exact Maps.atKey_put_same hm (zD j y) _ z⟩
 rw [if_neg e];refine ⟨by rw [Maps.has_put_other (pW e)];exact (hf j y).1,fun c d z=>?_⟩;rw [Maps.atKey_put_other (pW e)];exact (hf j y).2 c d z
theorem dS.store (h:dS w mb n f) (hn:n<1000000) {k:Int} (z:wfI k) (b:Nat):∃ w',(Instr.mapUpdate 173 (.map (some mb)) (.int .i64 k) (.pointer (some ⟨b,0,none⟩))).run prog w=.ok () w'/\
  dS w' mb (n+1) (fun j=>if j=k then some b else f j)/\w.grownBy w' (some mb):=by
 obtain ⟨D,y,hf⟩:=h;obtain ⟨w',d,e,h3⟩:=y.update iE Tryz.underlying173 (by simp only [maxLen];omega) (aLt z) (aHe (some b));exact ⟨w',d,⟨_,e,dS.aOx y.isMap hf z b⟩,h3⟩
end
def wK (D:DataW Unit) (f:Int->Option Nat):Prop:=∀ k,wfI k->Maps.has D (.int .i64 k)=(f k).isSome/\∀ b,f k=some b->∀ z,D.atKey (.int .i64 k) z=.lit (.int .i64 b)
theorem aMe (j k:Int) (y:wfI k):(Lit.int .i64 j).sameKey (.int .i64 k)=decide (j=k):=by
 by_cases e:j=k
 ·subst e;rw [WideAt.sameKey_self (zD j y)];simp
 rw [Maps.sameKey_ne (pW e)];simp [e]
theorem wK.del {D:DataW Unit} {f:Int->Option Nat} (h:wK D f) (k:Int):wK (D.del (.int .i64 k)) (fun j=>if j=k then none else f j):=by
 intro j y
 by_cases e:j=k
 ·subst e;simp only [if_true];exact ⟨Maps.has_del_same,fun b hb=>by cases hb⟩
 simp only [e,if_false];refine ⟨by rw [Maps.has_del_other (pW e)];exact (h j y).1,fun b hb z=>?_⟩;rw [Maps.atKey_del_other (pW e)];exact (h j y).2 b hb z
theorem wK.at {D:DataW Unit} {f:Int->Option Nat} (h:wK D f) {k:Int} (hk:wfI k) {o:Option Nat} (y:∀ z,D.atKey (.int .i64 k) z=aLw o):∃ b,o=some b/\f k=some b:=by
 have h1:=Maps.has_true_of_atKey y
 obtain ⟨d,h3⟩:=h k hk;rw [h1] at d
 cases e:f k with
 | none=>rw [e] at d;cases d
 | some b=>
  have:=h3 b e .nil;rw [y] at this;exact ⟨b,aCf (a:=o) (b:=some b) this,rfl⟩
section
variable {w:World} {ops:Array Oper} {rest:List Oper} {o:Oper} {a:Act} {Q:Exit->Act->World->Prop}
theorem iH (hg:o.guard=none) (it:Operand) (x1:o.op=Op.next it false) (b r n:Nat) (D:DataW Unit) (d:Lit->Bool) (cnt:Nat) (f:Int->Option Nat) (hd:wK D f)
  (h7:a.eval it=.pointer (some ⟨r,0,none⟩)) (h:w.ranges prog 3 dV b r n D d cnt)
  (h1:cnt=0->(∀ kl,d kl=false)->wpList prog ops Q rest (a.put o.dst (.tuple #[.bool false])) w)
  (h2:∀ (k:Int) (c:Nat) (w':World) (e:Nat),wfI k->d (.int .i64 k)=true->f k=some c->w'.ranges prog 3 dV b r n D (fun z=>d z && !z.sameKey (.int .i64 k)) e->e<cnt->
   w.grownBy w' (some r)->w'.heap.size=w.heap.size->(Instr.entry (.pointer (some ⟨r,0,none⟩))).run prog w'=.ok (.tuple #[.int .i64 k,.pointer (some ⟨c,0,none⟩)]) w'->wpList prog ops Q rest (a.put o.dst (.tuple #[.bool true,.int .i64 k,.pointer (some ⟨c,0,none⟩)])) w') :
  wpList prog ops Q (o :: rest) a w:=by
 refine wpList_next_ranges w hg it x1 3 iE dV (Value.int .i64) mkP (fun x4 kl h0=>by obtain ⟨x,rfl,_⟩:=Maps.keyOf_int_inv Tryz.underlying3 h0;exact ⟨x,rfl⟩) (fun v y hv=>by obtain ⟨c,rfl,_⟩:=qC hv;exact ⟨c,rfl⟩)
  b r n D d cnt h7 h h1 (fun x c kl y w' e h0 h8 hv h4 x2 h9 h6 x3 h5=>?_)
 obtain ⟨x',ex,rfl,h3⟩:=Maps.keyOf_int_inv Tryz.underlying3 h0
 cases ex
 obtain ⟨c',ec,rfl⟩:=qC hv;obtain rfl:=aOQ ec;obtain ⟨bb,rfl,hf⟩:=hd.at h3 h4
 exact h2 x bb w' e h3 h8 hf x2 h9 h6 x3 h5
end
theorem yH {w w':World} {S:Nat->Prop} {b r n:Nat} {D:DataW Unit} {y:Lit->Bool} {cnt:Nat} (h:w.ranges prog 3 dV b r n D y cnt) (ho:aI S w w') (hb:¬ S b) (hr:¬ S r):w'.ranges prog 3 dV b r n D y cnt:=by
 have h1:=h.owns.lt;have h2:=h.lt;obtain ⟨es,z,d,h0,c0,h3,F,hs,hD,h4,e⟩:=h;exact ⟨es,z,d,h0,c0,(ho.block b h1 hb).trans h3,F,hs,hD,(ho.block r h2 hr).trans h4,e⟩
theorem dS.congr {w:World} {y n:Nat} {f g:Int->Option Nat} (h:dS w y n f) (z:∀ k,f k=g k):dS w y n g:=by
 rw [show g=f from (funext z).symm];exact h
section
variable {w:World} {m1 m2 n1 n2:Nat} {D1 D2:DataW Unit} {f1 f2:Int->Option Nat} {g:Int->Bool}
theorem aPd (d:w.ownsMap prog 3 dV m1 n1 D1) (y:wK D1 f1) (z:wK D2 f2) (h:∀ k,wfI k->(f1 k).isSome=true->(f2 k).isSome=true):∀ k,Maps.has D1 k=true->Maps.has D2 k=true:=fun k hk=>by
 obtain ⟨x,rfl,hx⟩:=qE d hk;rw [(z x hx).1];exact h x hx (by rw [<-(y x hx).1];exact hk)
end
theorem dS.tight {w w2:World} {mb n h4 m:Nat} {f f0:Int->Option Nat} (h:dS w mb n f) (h0:dS w2 h4 m f0) (hs:∀ k,wfI k->(f k).isSome=true->(f0 k).isSome=true):dS w mb m f:=by
 obtain ⟨D,e,hf⟩:=h;obtain ⟨D0,z,h3⟩:=h0;refine ⟨D,?_,hf⟩;have h1:=(aLX (e.canon iE) (z.canon iE) (aPd e hf h3 hs)).1;have h2:=z.size_le;obtain ⟨d,y,hb,F,hn,rfl⟩:=e;have e1:Maps.size (DataW.map ((d.toList.map (WideElems.rg prog 3 dV)).foldr DataW.insert []))=d.size:=by simp [Maps.size,length_sorted]
 exact ⟨d,y,hb,F,by omega,rfl⟩
theorem dS.bound {w:World} {mb n:Nat} {f:Int->Option Nat} (h:dS w mb n f) (hs:∀ k,(f k).isSome=true->1<=k/\k<=192):dS w mb 192 f:=by
 obtain ⟨D,hD,hf⟩:=h;refine ⟨D,?_,hf⟩;have c:=hD.canon iE;have h1:=(lH (qH c) (l2:=(List.range 192).map fun (i:Nat)=>Lit.int .i64 ((i:Int)+1)) (fun x hx=>by
  have d:=(lM c x).1 hx;obtain ⟨z,rfl,hz⟩:=qE hD d;have h2:=hs z (by rw [<-(hf z hz).1];exact d);exact List.mem_map.2 ⟨z.toNat - 1,by simp;omega,by congr 1;omega⟩)).1
 rw [sF c] at h1;simp only [List.length_map,List.length_range] at h1;obtain ⟨e,y,hb,F,hn,rfl⟩:=hD;have e1:Maps.size (DataW.map ((e.toList.map (WideElems.rg prog 3 dV)).foldr DataW.insert []))=e.size:=by simp [Maps.size,length_sorted]
 exact ⟨e,y,hb,F,by omega,rfl⟩
end Go.Proofs.YthflghdaejbdkaaGreat
namespace Go.Proofs.YthflghdaejbdkaaGreat
open _root_.Go.Proofs.Tryz (prog)
open Go.RowKit
set_option maxHeartbeats 1600000
set_option maxRecDepth 100000
set_option linter.unusedVariables false
def Bls (w:World) (base:Nat) (v:Value) (l:List Bool):Prop:=w.ownsRow base 4 1 v l.length (l.map (Value.bool))
theorem wZ:(prog.info? 4).map (fun i=>(i.zero,i.size,i.bytes))=some (some (.bool false),1,1):=by kernel_rfl
theorem Bls.nil (w:World) (base:Nat):Bls w base (.slice none 0 0) []:=World.ownsRow_nil _ _ _ _
theorem Bls.drew {w:World} {base:Nat} {v:Value} {l:List Bool} (h:Bls w base v l):Bls w.drew base v l:=h
theorem Bls.alloc {w:World} {base:Nat} {v:Value} {l:List Bool} (h:Bls w base v l) (o:Obj):Bls (w.alloc o) base v l:=World.ownsRow.alloc h o
theorem Bls.base {w:World} {base b:Nat} {v:Value} {l:List Bool} (h:Bls w base v l) (hb:b<=base):Bls w b v l:=by
 refine ⟨h.1,?_⟩;rcases h.2 with z|⟨g,cap,y,e,d,r⟩
 ·exact .inl z
 exact .inr ⟨g,cap,y,e,Nat.le_trans hb d,r⟩
theorem Bls.form {w:World} {base:Nat} {v:Value} {l:List Bool} (h:Bls w base v l) :
  (v=.slice none 0 0/\l=[])\/∃ g cap,v=.slice (some ⟨g,0,none⟩) l.length cap/\base<=g/\g<w.heap.size/\l.length<=cap/\(∀ i,i<l.length->w.cell? ⟨g,i,none⟩=some (.bool (gB l i))):=by
 rcases h.2 with ⟨z,d⟩|⟨g,cap,h0,y,hg,hh,hc,hm,hs,ht⟩
 ·exact .inl ⟨z,List.eq_nil_of_length_eq_zero d⟩
 refine .inr ⟨g,cap,y,hg,(Array.getElem?_eq_some_iff.1 hh).1,hc,fun i hi=>?_⟩;have e:=World.ownsRow.cells h (g:=g) (by rw [y];rfl) i (.bool (gB l i)) (by simp [hi,gB]);rwa [show (⟨g,0,none⟩:Addr).add i=⟨g,i,none⟩ by unfold Addr.add;split<;>simp_all] at e
theorem Bls.len {w:World} {base:Nat} {v:Value} {l:List Bool} (h:Bls w base v l):∃ a cap,v=.slice a l.length cap:=by
 rcases h.form with ⟨y,z⟩|⟨g,cap,y,_⟩
 ·exact ⟨none,0,by rw [y,z];rfl⟩
 exact ⟨_,cap,y⟩
theorem Bls.only {w w':World} {base:Nat} {v:Value} {l:List Bool} {F:List Nat} (h:Bls w base v l) (hg:Only F w w') (hF:∀ k,v.ownBlock=some k->k∉F):Bls w' base v l:=by
 refine ⟨h.1,?_⟩;rcases h.2 with e|⟨g,cap,y,d,hb,z,r⟩
 ·exact .inl e
 exact .inr ⟨g,cap,y,d,hb,by rw [hg.block g (Array.getElem?_eq_some_iff.1 z).1 (hF g (by rw [d];rfl))];exact z,r⟩
theorem Bls.own {w:World} {base:Nat} {v:Value} {l:List Bool} (h:Bls w base v l):∀ k,v.ownBlock=some k->base<=k/\k<w.heap.size:=World.ownsRow.lt h
theorem aBq {w:World} {ops:Array Oper} {e:List Oper} {o:Oper} {a:Act} {Q:Exit->Act->World->Prop} (h7:o.guard=none) (s x:Operand)
  (ho:o.op=.call { callee:=.builtin .append,args:=#[s,x],argTypes:=#[50,50] })
  (base:Nat) (v:Value) (l:List Bool) (hs:a.eval s=v) (h6:Bls w base v l)
  (ad:Addr) (m c:Nat) (z:List Bool) (hx:a.eval x=.slice (some ad) m c) (hl:z.length=m) (h4:∀ j u,z[j]?=some u->w.cell? (ad.add j)=some (.bool u))
  (d:(l.length+m)*1<=140737488355328) (h0:base<=w.heap.size)
  (h:∀ v' w',Bls w' base v' (l ++ z)->Only v.ownBlock.toList w w'->(v'=.slice none 0 0↔v=.slice none 0 0/\m=0)->(v'.ownBlock=v.ownBlock\/v'.ownBlock=some w.heap.size)->wpList prog ops Q e (a.put o.dst v') w'):wpList prog ops Q (o :: e) a w:=by
 obtain ⟨i0,hi,h8,h9,x1⟩:=info_parts wZ;refine bV h7 s x 50 ho base 4 i0 (.bool false) 1 1 Tryz.underlying50 hi h8 h9 x1 rfl (by decide) v l.length _ hs h6 ad m c (z.map (Value.bool)) hx (by simp [hl])
  (fun j u hu=>?_) (fun u hu=>?_) (by simp only [maxLen];omega) d h0 (fun v' w' h1 h2 h3 h5=>h v' w' ?_ ?_ h3 h5)
 ·simp only [List.getElem?_map,Option.map_eq_some_iff] at hu;obtain ⟨y,hy,rfl⟩:=hu;exact h4 j y hy
 ·simp only [List.mem_map] at hu;obtain ⟨y,_,rfl⟩:=hu;rfl
 ·unfold Bls;rw [List.length_append,hl,List.map_append];exact h1
 exact (Only.refl _ _).grown h2 (fun k hk=>.inl (by rw [hk];simp))
theorem vK {w:World} {ops:Array Oper} {z:List Oper} {o:Oper} {a:Act} {Q:Exit->Act->World->Prop} (h4:o.guard=none) (s x:Operand)
  (ho:o.op=.call { callee:=.builtin .append,args:=#[s,x],argTypes:=#[50,50] })
  (base:Nat) (v:Value) (l:List Bool) (hs:a.eval s=v) (h0:Bls w base v l)
  (b:Nat) (y:Bool) (hx:a.eval x=.slice (some ⟨b,0,none⟩) 1 1) (e:w.cell? ⟨b,0,none⟩=some (.bool y))
  (h3:l.length+1<=17592186044416) (d:base<=w.heap.size)
  (h:∀ v' w',Bls w' base v' (l ++ [y])->Only v.ownBlock.toList w w'->(v'.ownBlock=v.ownBlock\/v'.ownBlock=some w.heap.size)->wpList prog ops Q z (a.put o.dst v') w'):wpList prog ops Q (o :: z) a w:=by
 refine aBq h4 s x ho base v l hs h0 ⟨b,0,none⟩ 1 1 [y] hx rfl (fun j u hu=>?_) (by omega) d (fun v' w' h1 h2 _ h5=>h v' w' h1 h2 h5)
 cases j with
 | zero=>simp at hu;subst hu;exact e
 | succ j=>simp at hu
theorem aMz (n:Nat):(madeCells (Value.bool false).cells (n*1)).toList=List.replicate n (Value.bool false):=by
 apply List.ext_getElem
 ·simp [madeCells]
 intro i y z;simp [madeCells,Value.cells,Nat.mod_one]
theorem Bls.made (w:World):Bls (w.alloc (.cells #[] 4)) w.heap.size (.slice (some ⟨w.heap.size,0,none⟩) 0 0) []:=
 World.ownsRow_made w #[] 0 (Nat.le_refl _) (by simp [maxLen]) rfl
set_option maxHeartbeats 400000 in
theorem aIh (w:World):Calls prog 165 #[.slice none 0 0] w (aO w (.slice none 0 0)):=by
 have d:=fun (z:World)=>Lib.run_eql_slice_nil (P:=prog) z 50 4 none 0 0 0 0 Tryz.underlying50;refine aF fun R y=>?_;go_in;go_wp2;exact y.o _ _ ⟨rfl,rfl⟩
section
variable {S:Nat->Prop} {w w':World}
theorem Bls.dB {base:Nat} {v:Value} {l:List Bool} (h:Bls w base v l) (hg:aI S w w') (hF:∀ k,v.ownBlock=some k->¬ S k):Bls w' base v l:=by
 refine ⟨h.1,?_⟩;rcases h.2 with e|⟨g,cap,y,d,hb,z,r⟩
 ·exact .inl e
 exact .inr ⟨g,cap,y,d,hb,by rw [hg.block g (Array.getElem?_eq_some_iff.1 z).1 (hF g (by rw [d];rfl))];exact z,r⟩
end
end Go.Proofs.YthflghdaejbdkaaGreat
namespace Go.Proofs.YthflghdaejbdkaaGreat
open _root_.Go.Proofs.Tryz (prog)
open Go.RowKit Go.Maps
set_option maxHeartbeats 1600000
set_option maxRecDepth 100000
set_option linter.unusedVariables false
inductive Lb|mem|pool|pages|map|th (h:Int)|rb (h:Int)|bl (h:Int)
 deriving DecidableEq
def Th.kP (o:Th):List Bool:=if o.kind=2 then o.refs else []
def aAt (o:Th) (rv bv:Value):List Value:=[.int .i64 o.kind,.int .i64 o.cls,.int .i64 o.slots.length,rv,bv]
structure aEl (w:World) (L:Nat->Option Lb) (h:Int) (b:Nat) (rv bv:Value) (o:Th):Prop where
 row:∃ T,Row w b T (aAt o rv bv)
 Lth:L b=some (.th h)
 rb:Bls w 0 rv o.kP
 Lr:∀ g,rv.ownBlock=some g->L g=some (.rb h)
 bl:aN w 0 bv o.blocks
 Ll:∀ g,bv.ownBlock=some g->L g=some (.bl h)
structure HX where
 pp:Nat
 pb:Nat
 mb:Nat
 blk:Int->Nat
 rv:Int->Value
 bv:Int->Value
structure dO (w:World) (L:Nat->Option Lb) (hb:Nat) (M:Hp) (X:HX):Prop where
 lt:∀ k,L k≠none->k<w.heap.size
 mem:∃ T,Row w hb T [.pointer (some ⟨X.pp,0,none⟩),.map (some X.mb)]
 Lm:L hb=some .mem
 pool:dQ w X.pp X.pb M.P
 Lpp:L X.pp=some .pool
 Lpb:L X.pb=some .pages
 mp:dS w X.mb 192 (fun h=>(M.ob h).map fun _=>X.blk h)
 Lp:L X.mb=some .map
 th:∀ h o,M.ob h=some o->aEl w L h (X.blk h) (X.rv h) (X.bv h) o
section
variable {w w':World} {S:Nat->Prop} {L L':Nat->Option Lb} {hb:Nat} {M:Hp} {X:HX}
theorem gQ.dB {b o:Nat} {p:Pg} (h:gQ w b o p) (z:aI S w w') (y:¬ S b):gQ w' b o p:=fun r d=>z.cell (h r d) y
theorem dQ.dB {p b:Nat} {P:Pl} (h:dQ w p b P) (z:aI S w w') (e:¬ S p) (d:¬ S b):dQ w' p b P:=
 ⟨h.hp.imp fun _ x=>x.imp fun _ y=>z.row y e,h.hb.imp fun _ x=>x.imp fun _ y=>z.row y d,fun i hi=>(h.pg i hi).dB z d,h.ne,h.n1,h.n24,h.ok⟩
theorem aEl.only {h:Int} {b:Nat} {rv bv:Value} {o:Th} (k:aEl w L h b rv bv o) (z:aI S w w') (y:∀ x,S x->L x≠some (.th h)/\L x≠some (.rb h)/\L x≠some (.bl h)):aEl w' L h b rv bv o:=by
 obtain ⟨⟨T,h1⟩,d,h3,e,h5,h6⟩:=k;exact ⟨⟨T,z.row h1 (fun x=>(y b x).1 d)⟩,d,h3.dB z (fun g hgv x=>(y g x).2.1 (e g hgv)),e,h5.dB z (fun g hgv x=>(y g x).2.2 (h6 g hgv)),h6⟩
theorem dO.only (h:dO w L hb M X) (z:aI S w w') (hS:∀ k,S k->L k=none):dO w' L hb M X:=by
 have y:∀ k ℓ,S k->L k≠some ℓ:=fun k ℓ d e=>by rw [hS k d] at e;cases e
 refine ⟨fun k d=>Nat.lt_of_lt_of_le (h.lt k d) z.size,?_,h.Lm,h.pool.dB z (fun x=>y _ _ x h.Lpp) (fun x=>y _ _ x h.Lpb),h.Lpp,h.Lpb,h.mp.only z (fun x=>y _ _ x h.Lp),h.Lp,
  fun k t d=>(h.th k t d).only z (fun x hx=>⟨y x _ hx,y x _ hx,y x _ hx⟩)⟩
 obtain ⟨T,hr⟩:=h.mem;exact ⟨T,z.row hr (fun x=>y _ _ x h.Lm)⟩
theorem dO.aK (h:dO w L hb M X) (y:Only [] w w'):dO w' L hb M X:=h.only (y.vU (S:=fun _=>False)) (fun _ x=>x.elim)
theorem dO.drewN (h:dO w L hb M X) (n:Nat):dO (w.drewN n) L hb M X:=h.only ((aI.refl (fun _=>False) w).drewN n) (fun _ x=>x.elim)
theorem dO.drew (h:dO w L hb M X):dO w.drew L hb M X:=h.only ((aI.refl (fun _=>False) w).drew) (fun _ x=>x.elim)
theorem sD {ℓ:Lb} {g:Nat} (y:∀ k,L k≠none->L' k=L k) (h:L g=some ℓ):L' g=some ℓ:=by rw [y g (by rw [h];simp)];exact h
theorem aEl.lab {h:Int} {b:Nat} {rv bv:Value} {o:Th} (k:aEl w L h b rv bv o) (y:∀ k,L k≠none->L' k=L k):aEl w L' h b rv bv o:=
 ⟨k.row,sD y k.Lth,k.rb,fun g z=>sD y (k.Lr g z),k.bl,fun g z=>sD y (k.Ll g z)⟩
theorem dO.cells (h:dO w L hb M X):w.cell? ⟨hb,0,none⟩=some (.pointer (some ⟨X.pp,0,none⟩))/\w.cell? ⟨hb,1,none⟩=some (.map (some X.mb))/\∀ i,w.frozen? ⟨hb,i,none⟩=false:=by
 obtain ⟨T,y⟩:=h.mem;exact ⟨y.cell 0 rfl,y.cell 1 rfl,fun i=>y.free i⟩
theorem dO.look (h:dO w L hb M X) {x:Int} (hx:wfI x):(Instr.lookup 173 (.map (some X.mb)) (.int .i64 x) false).run prog w=.ok (mkP ((M.ob x).map fun _=>X.blk x)) w:=h.mp.look hx
theorem dO.rX (h:dO w L hb M X) {x:Int} (hx:wfI x) (y:M.ob x=none):(Instr.lookup 173 (.map (some X.mb)) (.int .i64 x) false).run prog w=.ok (.pointer none) w:=by
 have:=h.look hx;rw [y] at this;exact this
theorem dO.lK (h:dO w L hb M X) {x:Int} (hx:wfI x) {o:Th} (y:M.ob x=some o):(Instr.lookup 173 (.map (some X.mb)) (.int .i64 x) false).run prog w=.ok (.pointer (some ⟨X.blk x,0,none⟩)) w:=by
 have:=h.look hx;rw [y] at this;exact this
theorem aEl.cells {h:Int} {b:Nat} {rv bv:Value} {o:Th} (k:aEl w L h b rv bv o):w.cell? ⟨b,0,none⟩=some (.int .i64 o.kind)/\w.cell? ⟨b,1,none⟩=some (.int .i64 o.cls)/\w.cell? ⟨b,2,none⟩=some (.int .i64 o.slots.length)/\w.cell? ⟨b,3,none⟩=some rv/\w.cell? ⟨b,4,none⟩=some bv:=by
 obtain ⟨T,y⟩:=k.row;exact ⟨y.cell 0 rfl,y.cell 1 rfl,y.cell 2 rfl,y.cell 3 rfl,y.cell 4 rfl⟩
end
def aRh (w:World) (v:Value):Prop:=v=.pointer none\/∃ b,v=.pointer (some ⟨b,0,none⟩)/\w.cell? ⟨b,0,none⟩=some (.pointer none)
theorem aKc (w:World) (v:Value) (h:aRh w v):Calls prog 130 #[v] w (aO w (.bool true)):=by
 refine aF fun R y=>?_;rcases h with rfl|⟨b,rfl,hc⟩<;>
 (go_in
  go_wp2;exact y.o _ _ ⟨rfl,rfl⟩)
section
variable {L:Nat->Option Lb} {hb:Nat} {M:Hp} {X:HX}
theorem iK (w:World) (h:dO w L hb M X):Calls prog 130 #[.pointer (some ⟨hb,0,none⟩)] w (aO w (.bool false)):=by
 refine aF fun R y=>?_;have z:=h.cells.1;clear h;go_in;go_wp2;exact y.o _ _ ⟨rfl,rfl⟩
theorem aQR (w:World) (v:Value) (h:aRh w v) (x:Int):Calls prog 191 #[v,.int .i64 x] w (aO w (.tuple #[.pointer none,.int .i64 1])):=by
 refine aF fun R z=>?_;have y:=aKc w v h;clear h;go_in;go_wp2_with fail;go_fit y;rintro e _ ⟨rfl,rfl⟩;go_wp2;exact z.o _ _ ⟨rfl,rfl⟩
theorem oJ (w:World) (h:dO w L hb M X) (x:Int) (hx:wfI x) (y:M.ob x=none):Calls prog 191 #[.pointer (some ⟨hb,0,none⟩),.int .i64 x] w (aO w (.tuple #[.pointer none,.int .i64 3])):=by
 refine aF fun R d=>?_;have z:=iK w h;have h2:=h.cells.2.1;have h3:=h.rX hx y;clear h y;go_in;go_wp2_with fail;go_fit z;rintro e _ ⟨rfl,rfl⟩;go_wp2;exact d.o _ _ ⟨rfl,rfl⟩
theorem lU (w:World) (h:dO w L hb M X) (x:Int) (hx:wfI x) {o:Th} (y:M.ob x=some o):Calls prog 191 #[.pointer (some ⟨hb,0,none⟩),.int .i64 x] w (aO w (.tuple #[.pointer (some ⟨X.blk x,0,none⟩),.int .i64 0])):=by
 refine aF fun R d=>?_;have z:=iK w h;have h2:=h.cells.2.1;have h3:=h.lK hx y;clear h y;go_in;go_wp2_with fail;go_fit z;rintro e _ ⟨rfl,rfl⟩;go_wp2;exact d.o _ _ ⟨rfl,rfl⟩
theorem xP (w:World) (h:dO w L hb M X) (x s:Int) (hx:wfI x) (y:M.ob x=none):Calls prog 194 #[.pointer (some ⟨hb,0,none⟩),.int .i64 x,.int .i64 s] w (aO w (.tuple #[.pointer none,.int .i64 3])):=by
 refine aF fun R d=>?_;have z:=oJ w h x hx y;clear h y;go_in;go_wp2_with fail;go_fit z;rintro e _ ⟨rfl,rfl⟩;go_wp2;exact d.o _ _ ⟨rfl,rfl⟩
theorem aBC (w:World) (h:dO w L hb M X) (x s:Int) (hx:wfI x) {o:Th} (y:M.ob x=some o) (hs:s<0\/(o.slots.length:Int)<=s):Calls prog 194 #[.pointer (some ⟨hb,0,none⟩),.int .i64 x,.int .i64 s] w (aO w (.tuple #[.pointer none,.int .i64 1])):=by
 refine aF fun R d=>?_;have z:=lU w h x hx y;have h2:=(h.th x o y).cells.2.2.1;clear h y;generalize o.slots.length=n at *
 by_cases h0:s<0
 ·go_in;go_wp2_with fail;go_fit z;rintro e _ ⟨rfl,rfl⟩;go_wp2;exact d.o _ _ ⟨rfl,rfl⟩
 have h3:(n:Int)<=s:=by omega
 clear hs;go_in;go_wp2_with fail;go_fit z;rintro e _ ⟨rfl,rfl⟩;go_wp2;exact d.o _ _ ⟨rfl,rfl⟩
theorem aEs (w:World) (h:dO w L hb M X) (x s:Int) (hx:wfI x) {o:Th} (y:M.ob x=some o) (hs:¬ (s<0\/(o.slots.length:Int)<=s)):Calls prog 194 #[.pointer (some ⟨hb,0,none⟩),.int .i64 x,.int .i64 s] w (aO w (.tuple #[.pointer (some ⟨X.blk x,0,none⟩),.int .i64 0])):=by
 refine aF fun R d=>?_;have z:=lU w h x hx y;have h2:=(h.th x o y).cells.2.2.1;clear h y;generalize o.slots.length=n at*;have h0:¬ s<0:=by omega
 have h3:¬ (n:Int)<=s:=by omega
 clear hs;go_in;go_wp2_with fail;go_fit z;rintro e _ ⟨rfl,rfl⟩;go_wp2;exact d.o _ _ ⟨rfl,rfl⟩
theorem uP (w:World) {h:Int} {b:Nat} {rv bv:Value} {o:Th} (k:aEl w L h b rv bv o) (y:o.ok1) {s:Nat} (hs:s<o.slots.length) :
  Calls prog 198 #[.pointer (some ⟨b,0,none⟩),.int .i64 s] w (aO w (.bool (gB o.refs s))):=by
 refine aF fun R e=>?_;have c0:=k.cells.1;rcases y.kd with ⟨z,_⟩|⟨z,_,_,d⟩|⟨z,_,_,_,d⟩
 ·have c3:=k.cells.2.2.2.1;have hr:=k.rb;unfold Th.kP at hr;rw [if_pos z] at hr;have hl:s<o.refs.length:=by rw [y.rl];exact hs
  rcases hr.form with ⟨_,e3⟩|⟨g,cap,e3,_,_,_,hc⟩
  ·rw [e3] at hl;simp at hl
  have h2:=hc s hl;rw [z] at c0;rw [e3] at c3;have h1:(s:Int)<(o.refs.length:Int):=by omega
  have h0:(0:Int)<=s:=by omega
  clear hr hc k y e3 hs z;generalize gB o.refs s=r at*;generalize o.refs.length=n at*;go_in;go_wp2;exact e.o _ _ ⟨rfl,rfl⟩
 ·rw [z] at c0;rw [d s] at e;clear k y z d;go_in;go_wp2;exact e.o _ _ ⟨rfl,rfl⟩
 rw [z] at c0;rw [d s hs] at e;clear k y z d;go_in;go_wp2;exact e.o _ _ ⟨rfl,rfl⟩
end
theorem Hp.Ok.xE {M:Hp} (y:M.Ok) {h:Int} {o:Th} (d:M.ob h=some o) {m:Nat} (z:m<o.blocks.length):0<=gI o.blocks m/\gI o.blocks m<384:=by
 have e:=(y.bk h o d m z).range (y.isC d z);have h2:=(y.isC d z).sz;have h3:=y.n24;omega
section
variable {L:Nat->Option Lb} {hb:Nat} {M:Hp} {X:HX}
theorem aN.cellsOf {w:World} {base:Nat} {v:Value} {l:List Int} (h:aN w base v l) (y:1<=l.length):∃ g cap,v=.slice (some ⟨g,0,none⟩) l.length cap/\∀ i,i<l.length->w.cell? ⟨g,i,none⟩=some (.int .i64 (gI l i)):=by
 rcases h.form with ⟨_,e⟩|⟨g,cap,e,_,_,_,z⟩
 ·rw [e] at y;simp at y
 exact ⟨g,cap,e,z⟩
theorem aAk (w:World) {h:Int} {b:Nat} {rv bv:Value} {o:Th} (k:aEl w L h b rv bv o) (hk:M.Ok) (ho:M.ob h=some o) {s:Nat} (hs:s<o.slots.length) :
  Calls prog 196 #[.pointer (some ⟨b,0,none⟩),.int .i64 s] w (aO w (.int .i64 (o.addr s))):=by
 refine aF fun R d=>?_;obtain ⟨h0,h6,h2,h3⟩:=hk.aCn ho;obtain ⟨g,cap,e,hc⟩:=k.bl.cellsOf h0;have c4:=k.cells.2.2.2.2;rw [e] at c4;have h4:=hk.xE ho (m:=0) (by omega);have h5:=(hk.th h o ho).le
 by_cases h1:1<o.blocks.length
 ·have h7:=h2.1 h1;have hl:=h3 h7;have hm:1+s / 8<o.blocks.length:=by omega
  have h9:=hc (1+s / 8) hm;have hr:=hk.xE ho hm;have y:Hid (o.addr s=gI o.blocks (1+s / 8)+((s % 8:Nat):Int)):=by show _=_;unfold Th.addr;rw [if_pos h1]
  rw [y.o] at d;obtain ⟨z,hz⟩:∃ z,z=gI o.blocks (1+s / 8):=⟨_,rfl⟩;rw [<-hz] at h9 hr d;obtain ⟨q,hq⟩:∃ q,q=s / 8:=⟨_,rfl⟩;obtain ⟨r,x1⟩:∃ r,r=s % 8:=⟨_,rfl⟩;rw [<-hq] at h9 hm;rw [<-x1] at d;have y2:(s:Int) / 8=(q:Int):=by omega
  have y4:(s:Int) % 8=(r:Int):=by omega
  have y3:(r:Int)<8:=by omega
  have x7:(0:Int)<=r:=by omega
  have x8:(0:Int)<=q:=by omega
  have x3:(0:Int)<=s:=by omega
  have y1:(q:Int)<=6:=by omega
  obtain ⟨n,hn⟩:∃ n,n=o.blocks.length:=⟨_,rfl⟩;rw [<-hn] at c4 h1 hm;have x9:(1:Int)<n:=by omega
  have y0:(1:Int)+q<n:=by omega
  obtain ⟨x5,x6⟩:=hr;have x4:(s:Int)<=48:=by omega
  clear k hk ho e hc h0 h6 h2 h3 h7 hl hz hq x1 hn y h4 h5 h1 hs;go_in;go_wp2;exact d.o _ _ ⟨rfl,rfl⟩
 have y:Hid (o.addr s=gI o.blocks 0+1+(s:Int)):=by show _=_;unfold Th.addr;rw [if_neg h1]
 rw [y.o] at d;have x2:=hc 0 (by omega);have h8:o.blocks.length=1:=by omega
 rw [h8] at c4;obtain ⟨z,hz⟩:∃ z,z=gI o.blocks 0:=⟨_,rfl⟩;rw [<-hz] at x2 h4 d;obtain ⟨x5,x6⟩:=h4;have x3:(0:Int)<=s:=by omega
 have x4:(s:Int)<=48:=by omega
 clear k hk ho e hc h0 h6 h2 h3 hz y h5 h1 h8 hs;go_in;go_wp2;exact d.o _ _ ⟨rfl,rfl⟩
theorem aBz (w:World) (h:dO w L hb M X) (x:Int) (hx:wfI x):Calls prog 162 #[.pointer (some ⟨hb,0,none⟩),.int .i64 x] w (Same w (.tuple #[.int .i64 (M.type x).1,.int .i64 (M.type x).2.1,.int .i64 (M.type x).2.2.1,.int .i64 (M.type x).2.2.2])):=by
 refine aF fun R d=>?_
 cases y:M.ob x with
 | none=>
  have z:M.type x=(0,0,0,3):=by unfold Hp.type;rw [y]
  rw [z] at d;have h1:=oJ w h x hx y;clear h z y;go_in;go_wp2_with fail;go_fit h1;rintro e _ ⟨rfl,rfl⟩;go_wp2;refine bodyPost_ret (kT rfl _ _ _) rfl ?_;exact d.o _ _ ⟨rfl,0,rfl⟩
 | some o=>
  have z:M.type x=(o.kind,o.cls,(o.slots.length:Int),0):=by unfold Hp.type;rw [y]
  rw [z] at d;have h1:=lU w h x hx y;obtain ⟨c0,c1,c2,_⟩:=(h.th x o y).cells;clear h z y;generalize o.slots.length=n at*;generalize o.kind=kd at*;generalize o.cls=cl at*;go_in;go_wp2_with fail;go_fit h1;rintro e _ ⟨rfl,rfl⟩;go_wp2;go_quiet (fail);go_wp2;refine bodyPost_ret (kT rfl _ _ _) rfl ?_;exact d.o _ _ ⟨rfl,_,rfl⟩
theorem sG (w:World) (h:dO w L hb M X) (hk:M.Ok) (x s:Int) (hx:wfI x):Calls prog 125 #[.pointer (some ⟨hb,0,none⟩),.int .i64 x,.int .i64 s] w (aO w (.tuple #[.bool (M.isRef x s).1,.int .i64 (M.isRef x s).2])):=by
 refine aF fun R d=>?_
 cases y:M.ob x with
 | none=>
  have z:M.isRef x s=(false,3):=by unfold Hp.isRef;rw [y]
  rw [z] at d;have h1:=xP w h x s hx y;clear h z y;go_in;go_wp2_with fail;go_fit h1;rintro e _ ⟨rfl,rfl⟩;go_wp2;exact d.o _ _ ⟨rfl,rfl⟩
 | some o=>
  by_cases hs:s<0\/(o.slots.length:Int)<=s
  ·have z:M.isRef x s=(false,1):=by unfold Hp.isRef;rw [y];simp only;rw [if_pos hs]
   rw [z] at d;have h1:=aBC w h x s hx y hs;clear h z y hs;go_in;go_wp2_with fail;go_fit h1;rintro e _ ⟨rfl,rfl⟩;go_wp2;exact d.o _ _ ⟨rfl,rfl⟩
  have z:M.isRef x s=(gB o.refs s.toNat,0):=by unfold Hp.isRef;rw [y];simp only;rw [if_neg hs]
  rw [z] at d;have h1:=aEs w h x s hx y hs;obtain ⟨n,rfl⟩:∃ n:Nat,s=n:=⟨s.toNat,by omega⟩;have h2:=uP w (h.th x o y) (hk.th x o y) (s:=n) (by omega);rw [Int.toNat_natCast] at d;clear h z y hs hk;go_in;go_wp2_with fail;go_fit h1;rintro e _ ⟨rfl,rfl⟩;go_wp2_with fail;go_fit h2;rintro e _ ⟨rfl,rfl⟩;go_wp2;exact d.o _ _ ⟨rfl,rfl⟩
theorem aKz (w:World) (h:dO w L hb M X) (hk:M.Ok) (x s:Int) (hx:wfI x):Calls prog 122 #[.pointer (some ⟨hb,0,none⟩),.int .i64 x,.int .i64 s] w (Same w (.tuple #[.int .i64 (M.get x s).1,.int .i64 (M.get x s).2])):=by
 refine aF fun R hR=>?_
 cases y:M.ob x with
 | none=>
  have d:M.get x s=(0,3):=by unfold Hp.get;rw [y]
  rw [d] at hR;have h1:=xP w h x s hx y;clear h d y;go_in;go_wp2_with fail;go_fit h1;rintro e _ ⟨rfl,rfl⟩;go_wp2;exact hR.o _ _ ⟨rfl,0,rfl⟩
 | some o=>
  by_cases hs:s<0\/(o.slots.length:Int)<=s
  ·have d:M.get x s=(0,1):=by unfold Hp.get;rw [y];simp only;rw [if_pos hs]
   rw [d] at hR;have h1:=aBC w h x s hx y hs;clear h d y hs;go_in;go_wp2_with fail;go_fit h1;rintro e _ ⟨rfl,rfl⟩;go_wp2;exact hR.o _ _ ⟨rfl,0,rfl⟩
  obtain ⟨n,rfl⟩:∃ n:Nat,s=n:=⟨s.toNat,by omega⟩;have d:M.get x n=(gI o.slots n,0):=by unfold Hp.get;rw [y];simp only;rw [if_neg hs,Int.toNat_natCast]
  rw [d] at hR;have hn:n<o.slots.length:=by omega
  have h1:=aEs w h x n hx y hs;have h2:∀ m,Calls prog 196 #[.pointer (some ⟨X.blk x,0,none⟩),.int .i64 n] (w.drewN m) fun e w''=>e=.returned (.int .i64 (o.addr n))/\∃ k,w''=w.drewN k:=fun m=>
   aU (aAk (w.drewN m) ((h.drewN m).th x o y) hk y hn)
  have h3:∀ m,Calls prog 195 #[.pointer (some ⟨X.pp,0,none⟩),.int .i64 (o.addr n)] (w.drewN m) fun e w''=>e=.returned (.tuple #[.int .i64 (gI o.slots n),.int .i64 0])/\∃ k,w''=w.drewN k:=fun m=>by
   have:=aGr (w.drewN m) X.pp X.pb M.P (h.drewN m).pool (o.addr n);rw [(hk.kS y hn).1] at this;exact Calls.quiet_of this
  have h0:=h.cells.1;generalize o.addr n=ad at*;generalize gI o.slots n=z at*;clear h d y hs hk hn;go_in;go_wp2_with fail;go_fit h1;rintro e _ ⟨rfl,rfl⟩;go_wp2;go_quiet ((first|(go_at_call 196;with_reducible exact h2 _)|(go_at_call 195;with_reducible exact h3 _)))
  go_wp2;exact hR.o _ _ ⟨rfl,_,rfl⟩
end
set_option maxHeartbeats 3200000
def aOb (w:World) (l:List Int) (e:Ending) (w':World):Prop:=∃ v,e=.returned v/\aN w' w.heap.size v l/\Only [] w w'
def aLz (w:World) (r:List Int×Int) (e:Ending) (w':World):Prop:=∃ v,e=.returned (.tuple #[v,.int .i64 r.2])/\aN w' w.heap.size v r.1/\Only [] w w'
theorem oV {w wr w2:World} {o:Obj} {v:Value} {l:List Int} (hO:Only [] w wr) (hi:aN wr w.heap.size v l) (d:Only v.ownBlock.toList (wr.alloc o) w2):Only [] w w2:=
 (hO.alloc o).trans d (fun z y=>.inr (by
  cases e:v.ownBlock with
  | none=>rw [e] at y;simp at y
  | some c=>rw [e] at y;simp at y;subst y;exact (hi.own _ e).1))
section
variable {L:Nat->Option Lb} {hb:Nat} {M:Hp} {X:HX}
theorem aLW (w:World) (h:dO w L hb M X) (z:M.Ok) {x:Int} {o:Th} (y:M.ob x=some o) {k:Nat} (d:k<o.slots.length) :
  (∀ m,Calls prog 196 #[.pointer (some ⟨X.blk x,0,none⟩),.int .i64 k] (w.drewN m) fun e w''=>e=.returned (.int .i64 (o.addr k))/\∃ k,w''=w.drewN k)/\
  ∀ m,Calls prog 195 #[.pointer (some ⟨X.pp,0,none⟩),.int .i64 (o.addr k)] (w.drewN m) fun e w''=>e=.returned (.tuple #[.int .i64 (gI o.slots k),.int .i64 0])/\∃ k,w''=w.drewN k:=by
 refine ⟨fun m=>aU (aAk (w.drewN m) ((h.drewN m).th x o y) z y d),fun m=>?_⟩;have:=aGr (w.drewN m) X.pp X.pb M.P (h.drewN m).pool (o.addr k);rw [(z.kS y d).1] at this;exact Calls.quiet_of this
theorem rG (w:World) (h:dO w L hb M X) (hk:M.Ok) {x:Int} {o:Th} (ho:M.ob x=some o) :
  Calls prog 132 #[.pointer (some ⟨hb,0,none⟩),.pointer (some ⟨X.blk x,0,none⟩)] w (aOb w o.fJ):=by
 refine aF fun R hR=>?_;have c2:=(h.th x o ho).cells.2.2.1;have x4:=(hk.th x o ho).le;have H:=aA h;have HK:=aA hk;have h3:=aA ho;obtain ⟨n,hn⟩:∃ n,n=o.slots.length:=⟨_,rfl⟩;rw [<-hn] at c2 x4;have HN:=aA hn;have h6:Hid (o.fJ=o.fE n):=by show _=_;rw [hn];rfl
 rw [h6.o] at hR;clear h hk ho hn h6;go_in;go_wp2_with fail;clear c2;go_loopw [5,13] (fun v iv wr=>∃ k:Nat,k<=n/\iv=.int .i64 k/\aN wr w.heap.size v (o.fE k)/\Only [] w wr) (fun _ iv _=>n - (intOf iv).toNat)
 case atStart=>exact ⟨0,by omega,rfl,aN.nil _ _,Only.refl _ _⟩
 case round=>
  obtain ⟨k,hk,rfl,hi,ho⟩:=hrel;have HI:=aA hi;have HO:=aA ho;clear hi ho
  by_cases x5:k<n
  ·have h2:k<o.slots.length:=by have:=HN.o;omega
   have hr:=H.o.aK HO.o;have d:=uP wr (hr.th x o h3.o) (HK.o.th x o h3.o) h2;obtain ⟨s1,s2⟩:=aLW wr hr HK.o h3.o h2;have h0:=hr.cells.1;have y:Hid (o.fE (k+1)=o.fE k ++ if gB o.refs k=true/\gI o.slots k≠0 then [gI o.slots k] else []):=rfl;have h9:=aA (o.jY k);generalize o.addr k=ad at s1 s2;generalize gI o.slots k=z at s2 y;clear hr h2
   cases hg:gB o.refs k
   ·rw [hg] at d y;have h1:Hid (o.fE (k+1)=o.fE k):=by show _=_;rw [y.o];simp
    clear y hg s1 s2;go_wp2_with fail;go_fit d;rintro e _ ⟨rfl,rfl⟩;clear d;go_wp2;exact ⟨⟨k+1,by omega,by go_num,by rw [h1.o];exact HI.o,HO.o⟩,by simp [intOf];omega⟩
   rw [hg] at d y
   by_cases hz:z=0
   ·subst hz;have h1:Hid (o.fE (k+1)=o.fE k):=by show _=_;rw [y.o];simp
    clear y hg;go_wp2_with fail;go_fit d;rintro e _ ⟨rfl,rfl⟩;clear d;go_wp2;go_quiet ((first|(go_at_call 196;with_reducible exact s1 _)|(go_at_call 195;with_reducible exact s2 _)))
    clear s1 s2 h0;go_wp2;exact ⟨⟨k+1,by omega,by go_num,by rw [h1.o];exact HI.o,HO.o.drewN _⟩,by simp [intOf];omega⟩
   have h1:Hid (o.fE (k+1)=o.fE k ++ [z]):=by show _=_;rw [y.o];simp [hz]
   have x6:(z != 0)=true:=by simpa using hz
   clear y hg hz;go_wp2_with fail;go_fit d;rintro e _ ⟨rfl,rfl⟩;clear d;go_wp2;go_quiet ((first|(go_at_call 196;with_reducible exact s1 _)|(go_at_call 195;with_reducible exact s2 _)))
   clear s1 s2 h0;have h5:=aA (HO.o.drewN nq);have h4:=aA (HI.o.drewN nq);generalize wr.drewN nq=w3 at*;go_wp2_with (at_builtin;refine bH rfl _ _ rfl w.heap.size _ _ rfl (h4.o.alloc (.cells #[.int .i64 z] 3)) w3.heap.size z rfl ?c1 ?c2 ?c3 ?c4)
   case c1=>exact (Row.new w3 _ [_]).cell 0 rfl
   case c2=>have:=h9.o;omega
   case c3=>have:=h5.o.size;simp;omega
   case c4=>
    intro v' w2 h7 h8 x3;have x2:=aA (oV h5.o h4.o h8);have x1:=aA h7;clear h7 h8 x3;go_wp2;exact ⟨⟨k+1,by omega,by go_num,by rw [h1.o];exact x1.o,x2.o⟩,by simp [intOf];omega⟩
  obtain rfl:k=n:=by omega
  go_wp2;exact hR.o _ _ ⟨_,rfl,HI.o,HO.o⟩
theorem aMj (w:World) (h:dO w L hb M X) (hk:M.Ok) (x:Int) (hx:wfI x):Calls prog 154 #[.pointer (some ⟨hb,0,none⟩),.int .i64 x] w (aLz w (M.refs x)):=by
 refine aF fun R hR=>?_
 cases y:M.ob x with
 | none=>
  have z:M.refs x=([],3):=by unfold Hp.refs;rw [y]
  rw [z] at hR;have d:=oJ w h x hx y;clear h z y;go_in;go_wp2_with fail;go_fit d;rintro e _ ⟨rfl,rfl⟩;go_wp2;exact hR.o _ _ ⟨_,rfl,aN.nil _ _,Only.refl _ _⟩
 | some o=>
  have z:M.refs x=(o.fJ,0):=by unfold Hp.refs;rw [y]
  rw [z] at hR;have d:=lU w h x hx y;have h2:=rG w h hk y;clear h z y hk;go_in;go_wp2_with fail;go_fit d;rintro e _ ⟨rfl,rfl⟩;go_wp2_with fail;go_fit h2;rintro e w2 ⟨v,rfl,hi,y⟩;have HI:=aA hi;have HO:=aA y;clear hi y d h2;go_wp2;exact hR.o _ _ ⟨_,rfl,HI.o,HO.o⟩
theorem pO (w:World) (h:dO w L hb M X) (hk:M.Ok) (x:Int) (hx:wfI x):Calls prog 115 #[.pointer (some ⟨hb,0,none⟩),.int .i64 x] w (aLz w (M.blocks x)):=by
 refine aF fun R hR=>?_
 cases y:M.ob x with
 | none=>
  have z:M.blocks x=([],3):=by unfold Hp.blocks;rw [y]
  rw [z] at hR;have d:=oJ w h x hx y;clear h z y;go_in;go_wp2_with fail;go_fit d;rintro e _ ⟨rfl,rfl⟩;go_wp2;exact hR.o _ _ ⟨_,rfl,aN.nil _ _,Only.refl _ _⟩
 | some o=>
  have z:M.blocks x=(o.blocks,0):=by unfold Hp.blocks;rw [y]
  rw [z] at hR;have d:=lU w h x hx y;obtain ⟨h0,h3,_⟩:=hk.aCn y;obtain ⟨g,cap,e,hc⟩:=(h.th x o y).bl.cellsOf h0;have c4:=(h.th x o y).cells.2.2.2.2;rw [e] at c4;have h2:=aBl w g o.blocks.length cap o.blocks rfl (by omega) hc;clear h z y hk e hc;go_in;go_wp2_with fail;go_fit d;rintro e _ ⟨rfl,rfl⟩;go_wp2_with fail;go_fit h2;rintro e w2 ⟨v,rfl,hi,y,_⟩;have HI:=aA hi;have HO:=aA y;clear hi y d h2;go_wp2;exact hR.o _ _ ⟨_,rfl,HI.o,HO.o⟩
end
theorem dX {l:List Int} {y:Int}:y∈l↔∃ i,i<l.length/\gI l i=y:=by
 constructor
 ·intro h;obtain ⟨i,z,rfl⟩:=List.getElem_of_mem h;exact ⟨i,z,by unfold gI;rw [List.getElem?_eq_getElem z];rfl⟩
 rintro ⟨i,z,rfl⟩;unfold gI;rw [List.getElem?_eq_getElem z];exact List.getElem_mem z
theorem zF (w:World) (v:Value) (l:List Int) (h:mY w v l) (hl:l.length<=1000000) (y:Int):Calls prog 233 #[v,.int .i64 y] w (aO w (.int .i64 (idx (fun k=>gI l k == y) l.length))):=by
 refine aF fun R hR=>?_;obtain ⟨a,c,e⟩:=h.len;subst e;have H:=aA h;obtain ⟨h1,z⟩:∃ n,n=l.length:=⟨_,rfl⟩;have h4:=aA z;rw [<-z] at hl H hR;rw [<-z];clear h z;go_in;go_wp2;go_loop [5,8] (fun _ i=>∃ k:Nat,k<=h1/\i=.int .i64 k/\Hid (∀ j,j<k->(gI l j == y)=false)) (fun _ i=>h1 - (intOf i).toNat)
 case atStart=>exact ⟨0,by omega,rfl,fun j hj=>by omega⟩
 case round=>
  obtain ⟨k,hk,rfl,hf⟩:=hrel
  by_cases h3:k<h1
  ·have h0:k<l.length:=by have:=h4.o;omega
   rcases H.o with ⟨b1,o1,d1,f1,g1⟩|⟨oa,d,f1,g1⟩;rotate_left
   ·rw [g1] at h0;simp at h0
   have e1:a=some ⟨b1,o1,none⟩:=by cases f1;rfl
   subst e1;have h2:=g1 k h0;obtain ⟨x,hx⟩:∃ x,x=gI l k:=⟨_,rfl⟩;rw [<-hx] at h2;have HX:=aA hx;clear hx g1 f1
   cases hq:(y == x)
   ·have HQ:Hid ((x == y)=false):=by show _=_;simp at hq ⊢;exact fun e=>hq e.symm
    go_wp2_with fail;go_round
    case rel=>exact ⟨k+1,by omega,by go_num,fun j hj=>by
     by_cases e:j=k
     ·rw [e,<-HX.o];exact HQ.o
     exact hf.o j (by omega)⟩
    case measure=>simp [intOf];omega
   have HQ:Hid ((x == y)=true):=by show _=_;simp at hq ⊢;exact hq.symm
   go_wp2;refine hR.o _ _ ⟨?_,rfl⟩;have e1:=lD (f:=fun k=>gI l k == y) h3 (by show (gI l k == y)=true;rw [<-HX.o];exact HQ.o) hf.o;rw [kY (by rw [e1];exact h3),e1]
  obtain rfl:k=h1:=by omega
  go_wp2;refine hR.o _ _ ⟨?_,rfl⟩;rw [sJ (by rw [fP (f:=fun k=>gI l k == y) hf.o];omega)]
theorem aOT {l:List Int} {y:Int}:decide (0<=idx (fun k=>gI l k == y) l.length)=decide (y∈l):=by
 by_cases h:fst (fun k=>gI l k == y) l.length<l.length
 ·rw [kY h];have z:=(dU (fun k=>gI l k == y) l.length).2 h;rw [show decide (y∈l)=true from decide_eq_true (dX.2 ⟨_,h,by simpa using z⟩)];simp
 rw [sJ h];rw [show decide (y∈l)=false from decide_eq_false (fun hm=>by
  obtain ⟨i,d,e⟩:=dX.1 hm;exact h (aDO (f:=fun k=>gI l k == y) d (by simp [e])).2.1)]
 simp
theorem qA (w:World) (v:Value) (l:List Int) (h:mY w v l) (hl:l.length<=1000000) (y:Int):Calls prog 193 #[v,.int .i64 y] w (aO w (.bool (decide (y∈l)))):=by
 refine aF fun R z=>?_;have d:=zF w v l h hl y;rw [<-aOT] at z;generalize idx (fun k=>gI l k == y) l.length=r at*;clear h;go_in;go_wp2_with fail;go_fit d;rintro e _ ⟨rfl,rfl⟩;go_wp2;exact z.o _ _ ⟨rfl,rfl⟩
section
variable {w w':World} {L:Nat->Option Lb} {hb:Nat} {M:Hp} {X:HX}
def wJ (w:World) (L:Nat->Option Lb) (hb:Nat) (r:Value) (M':Hp) (e:Ending) (w':World):Prop:=
 e=.returned r/\∃ y z,dO w' y hb M' z/\(∀ k,y k≠none->L k≠none\/w.heap.size<=k)/\aI (fun k=>L k≠none) w w'
theorem wJ.none {r:Value} (h:dO w L hb M X) (z:lX w w'):wJ w L hb r M (.returned r) w':=by
 obtain ⟨n,rfl⟩:=z;exact ⟨rfl,L,X,h.drewN n,fun k y=>.inl y,(aI.refl _ _).drewN n⟩
theorem wJ.none0 {r:Value} (h:dO w L hb M X) (y:Only [] w w'):wJ w L hb r M (.returned r) w':=
 ⟨rfl,L,X,h.aK y,fun k z=>.inl z,y.vU⟩
structure Th.Shape (o o':Th):Prop where
 kind:o'.kind=o.kind
 cls:o'.cls=o.cls
 refs:o'.refs=o.refs
 len:o'.slots.length=o.slots.length
 blocks:o'.blocks=o.blocks
theorem Th.Shape.refl (o:Th):o.Shape o:=⟨rfl,rfl,rfl,rfl,rfl⟩
theorem aEl.shape {h:Int} {b:Nat} {rv bv:Value} {o o':Th} (k:aEl w L h b rv bv o) (s:o.Shape o'):aEl w L h b rv bv o':=by
 have y:aAt o' rv bv=aAt o rv bv:=by unfold aAt;rw [s.kind,s.cls,s.len]
 have z:o'.kP=o.kP:=by unfold Th.kP;rw [s.kind,s.refs]
 exact ⟨by rw [y];exact k.row,k.Lth,by rw [z];exact k.rb,k.Lr,by rw [s.blocks];exact k.bl,k.Ll⟩
theorem dO.gK {P':Pl} {ob':Int->Option Th} (h:dO w L hb M X) (hg:Only [X.pb] w w') (hp:dQ w' X.pp X.pb P') (hs:∀ k,(M.ob k).isSome=(ob' k).isSome) (ho:∀ k o',ob' k=some o'->∃ o,M.ob k=some o/\o.Shape o'):dO w' L hb ⟨P',ob'⟩ X:=by
 have hP:aI (fun k=>L k=some .pages) w w':=hg.toP (fun x hx=>.inl (by simp at hx;rw [hx];exact h.Lpb));have y:∀ k ℓ,ℓ≠Lb.pages->L k=some .pages->L k≠some ℓ:=fun k ℓ d z e=>by rw [z] at e;cases e;exact d rfl
 refine ⟨fun k z=>Nat.lt_of_lt_of_le (h.lt k z) hP.size,?_,h.Lm,hp,h.Lpp,h.Lpb,?_,h.Lp,fun k o' z=>?_⟩
 ·obtain ⟨T,hr⟩:=h.mem;exact ⟨T,hP.row hr (fun x=>y _ .mem (by simp) x h.Lm)⟩
 ·refine (h.mp.only hP (fun x=>y _ .map (by simp) x h.Lp)).congr (fun k=>?_);show (M.ob k).map _=(ob' k).map _;have:=hs k
  cases d:M.ob k<;>cases h2:ob' k<;>simp_all
 obtain ⟨o,d,h2⟩:=ho k o' z;exact ((h.th k o d).only hP (fun x hx=>⟨y x _ (by simp) hx,y x _ (by simp) hx,y x _ (by simp) hx⟩)).shape h2
theorem aJg (w:World) (h:dO w L hb M X) (hk:M.Ok) (x s y:Int) (hx:wfI x) (hy:wfI y):Calls prog 127 #[.pointer (some ⟨hb,0,none⟩),.int .i64 x,.int .i64 s,.int .i64 y] w (wJ w L hb (.int .i64 (M.set x s y).1) (M.set x s y).2):=by
 refine aF fun R hR=>?_
 cases ho:M.ob x with
 | none=>
  have hr:M.set x s y=(3,M):=by unfold Hp.set;rw [ho]
  rw [hr] at hR;have h1:=xP w h x s hx ho;have HD:=aA (wJ.none (r:=.int .i64 3) h (lX.refl w));clear h hr ho hk;go_in;go_wp2_with fail;go_fit h1;rintro e _ ⟨rfl,rfl⟩;go_wp2;exact hR.o _ _ HD.o
 | some o=>
  by_cases hs:s<0\/(o.slots.length:Int)<=s
  ·have hr:M.set x s y=(1,M):=by unfold Hp.set;rw [ho];simp only;rw [if_pos hs]
   rw [hr] at hR;have h1:=aBC w h x s hx ho hs;have HD:=aA (wJ.none (r:=.int .i64 1) h (lX.refl w));clear h hr ho hs hk;go_in;go_wp2_with fail;go_fit h1;rintro e _ ⟨rfl,rfl⟩;go_wp2;exact hR.o _ _ HD.o
  obtain ⟨n,rfl⟩:∃ n:Nat,s=n:=⟨s.toNat,by omega⟩;have hn:n<o.slots.length:=by omega
  have h1:=aEs w h x n hx ho hs;have h2:=uP w (h.th x o ho) (hk.th x o ho) hn;have x3:=h.cells.2.1;have h5:M.set x n y=if M.fits (gB o.refs n) y then (0,⟨(M.P.setCell (o.addr n) y).2,eU M.ob x (some (o.put n y))⟩) else (1,M):=by unfold Hp.set;rw [ho];simp only;rw [if_neg hs,Int.toNat_natCast]
  cases hf:M.fits (gB o.refs n) y
  ·have hr:M.set x n y=(1,M):=by rw [h5,hf];rfl
   rw [hr] at hR;have HD:=aA (wJ.none (r:=.int .i64 1) h (lX.refl w))
   cases hg:gB o.refs n
   ·rw [hg] at h2 hf;have d:iY y=false:=hf;unfold iY at d;simp only [decide_eq_false_iff_not] at d;clear hf hr h5 hk hg hs x3
    by_cases x7:y < -2147483648
    ·clear d;go_in;go_wp2_with fail;go_fit h1;rintro e _ ⟨rfl,rfl⟩;go_wp2_with fail;go_fit h2;rintro e _ ⟨rfl,rfl⟩;go_wp2;exact hR.o _ _ HD.o
    have x8:2147483647<y:=by omega
    clear d;go_in;go_wp2_with fail;go_fit h1;rintro e _ ⟨rfl,rfl⟩;go_wp2_with fail;go_fit h2;rintro e _ ⟨rfl,rfl⟩;go_wp2;exact hR.o _ _ HD.o
   rw [hg] at h2 hf;have d:(decide (y=0) || (M.ob y).isSome)=false:=hf;simp only [Bool.or_eq_false_iff,decide_eq_false_iff_not] at d;have x5:M.ob y=none:=by
    cases e:M.ob y with
    | none=>rfl
    | some o'=>rw [e] at d;cases d.2
   have hl:=h.rX hy x5;have h7:(y != 0)=true:=by simpa using d.1
   clear hf d hr h5 hk hg hs x5;go_in;go_wp2_with fail;go_fit h1;rintro e _ ⟨rfl,rfl⟩;go_wp2_with fail;go_fit h2;rintro e _ ⟨rfl,rfl⟩;go_wp2;exact hR.o _ _ HD.o
  have hr:M.set x n y=(0,⟨(M.P.setCell (o.addr n) y).2,eU M.ob x (some (o.put n y))⟩):=by rw [h5,hf];rfl
  rw [hr] at hR;have h8:Hid (Calls prog 196 #[.pointer (some ⟨X.blk x,0,none⟩),.int .i64 n] w.drew (aO w.drew (.int .i64 (o.addr n)))):=aAk w.drew (h.drew.th x o ho) hk ho hn;have x2:(M.P.setCell (o.addr n) y).1=0:=by
   unfold Pl.setCell;rw [if_pos (hk.kS ho hn).2]
  have h6:Hid (Calls prog 199 #[.pointer (some ⟨X.pp,0,none⟩),.int .i64 (o.addr n),.int .i64 y] w.drew fun e w'=>e=.returned (.int .i64 0)/\dQ w' X.pp X.pb (M.P.setCell (o.addr n) y).2/\Only [X.pb] w.drew w'):=by
   have:=iT w.drew X.pp X.pb M.P h.drew.pool (o.addr n) y;rw [x2] at this;exact this
  have h3:Hid (∀ w',dQ w' X.pp X.pb (M.P.setCell (o.addr n) y).2->Only [X.pb] w.drew w'->wJ w L hb (.int .i64 0) ⟨(M.P.setCell (o.addr n) y).2,eU M.ob x (some (o.put n y))⟩ (.returned (.int .i64 0)) w'):=fun w' hp hg=>by
   have x4:Only [X.pb] w w':=((Only.refl [X.pb] w).drew).trans hg (fun x hx=>.inl hx);refine ⟨rfl,L,X,h.gK x4 hp (fun k=>?_) (fun k o' hk'=>?_),fun k hk=>.inl hk,x4.toP (fun x hx=>.inl (by simp at hx;rw [hx,h.Lpb];simp))⟩
   ·by_cases e:k=x
    ·rw [e,aZ,ho];rfl
    rw [bD _ _ e]
   rcases aW hk' with ⟨rfl,rfl⟩|⟨_,e2⟩
   ·exact ⟨o,ho,rfl,rfl,rfl,by simp [Th.put],rfl⟩
   exact ⟨o',e2,Th.Shape.refl _⟩
  have d0:w.drew.cell? ⟨hb,0,none⟩=some (.pointer (some ⟨X.pp,0,none⟩)):=h.cells.1;obtain ⟨ad,x1⟩:∃ z,z=o.addr n:=⟨_,rfl⟩;rw [<-x1] at h8 h6 h3 hR;obtain ⟨P2,h9⟩:∃ z,z=(M.P.setCell ad y).2:=⟨_,rfl⟩;rw [<-h9] at h6 h3 hR
  cases hg:gB o.refs n
  ·rw [hg] at h2 hf;have d:iY y=true:=hf;unfold iY at d;simp only [decide_eq_true_eq] at d;obtain ⟨x7,x8⟩:=d;clear hf hr h5 hk hg hs x3 x1 h9 x2 ho hn;go_in;go_wp2_with fail;go_fit h1;rintro e _ ⟨rfl,rfl⟩;go_wp2_with fail;go_fit h2;rintro e _ ⟨rfl,rfl⟩;go_wp2;go_region_held3 (fun w'=>w'.cell? ⟨hb,0,none⟩=some (.pointer (some ⟨X.pp,0,none⟩)))
    (first|(exact d0)|(exact h0.cell d0 (by simp;rintro rfl;have:=h.Lm;rw [h.Lpb] at this;cases this)))
    (first
     | (go_at_call 196;go_fit h8.o;rintro e _ ⟨rfl,rfl⟩)
     | (go_at_call 199;go_fit h6.o;rintro e w3 ⟨rfl,h4,h0⟩))
   have HE:=aA (h3.o w3 h4 h0);clear h4 h0 h3;go_wp2;exact hR.o _ _ HE.o
  rw [hg] at h2 hf;have d:(decide (y=0) || (M.ob y).isSome)=true:=hf;simp only [Bool.or_eq_true,decide_eq_true_eq] at d
  by_cases h7:y=0
  ·subst h7;clear hf d hr h5 hk hg hs x3 x1 h9 x2 ho hn;go_in;go_wp2_with fail;go_fit h1;rintro e _ ⟨rfl,rfl⟩;go_wp2_with fail;go_fit h2;rintro e _ ⟨rfl,rfl⟩;go_wp2;go_region_held3 (fun w'=>w'.cell? ⟨hb,0,none⟩=some (.pointer (some ⟨X.pp,0,none⟩)))
    (first|(exact d0)|(exact h0.cell d0 (by simp;rintro rfl;have:=h.Lm;rw [h.Lpb] at this;cases this)))
    (first
     | (go_at_call 196;go_fit h8.o;rintro e _ ⟨rfl,rfl⟩)
     | (go_at_call 199;go_fit h6.o;rintro e w3 ⟨rfl,h4,h0⟩))
   have HE:=aA (h3.o w3 h4 h0);clear h4 h0 h3;go_wp2;exact hR.o _ _ HE.o
  have x9:∃ o',M.ob y=some o':=by
   cases e:M.ob y with
   | none=>rw [e] at d;simp [h7] at d
   | some o'=>exact ⟨o',rfl⟩
  obtain ⟨o',x6⟩:=x9;have hl:=h.lK hy x6;have y0:(y != 0)=true:=by simpa using h7
  clear hf d hr h5 hk hg hs x1 h9 x2 ho hn h7 x6;go_in;go_wp2_with fail;go_fit h1;rintro e _ ⟨rfl,rfl⟩;go_wp2_with fail;go_fit h2;rintro e _ ⟨rfl,rfl⟩;go_wp2;go_region_held3 (fun w'=>w'.cell? ⟨hb,0,none⟩=some (.pointer (some ⟨X.pp,0,none⟩)))
   (first|(exact d0)|(exact h0.cell d0 (by simp;rintro rfl;have:=h.Lm;rw [h.Lpb] at this;cases this)))
   (first
    | (go_at_call 196;go_fit h8.o;rintro e _ ⟨rfl,rfl⟩)
    | (go_at_call 199;go_fit h6.o;rintro e w3 ⟨rfl,h4,h0⟩))
  have HE:=aA (h3.o w3 h4 h0);clear h4 h0 h3;go_wp2;exact hR.o _ _ HE.o
end
section
variable {w w':World} {L:Nat->Option Lb} {hb:Nat} {M:Hp} {X:HX}
theorem dO.aQo {P:Pl} {ob:Int->Option Th} (h:dO w L hb ⟨P,ob⟩ X) {x:Int} (hg:aI (·=X.mb) w w') (hm:dS w' X.mb 192 (fun k=>if k=x then none else (ob k).map fun _=>X.blk k)):dO w' L hb ⟨P,eU ob x none⟩ X:=by
 have hP:aI (fun k=>L k=some .map) w w':=hg.mono (fun y hy=>.inl (by rw [hy];exact h.Lp));have z:∀ k ℓ,ℓ≠Lb.map->L k=some .map->L k≠some ℓ:=fun k ℓ h1 hk e=>by rw [hk] at e;cases e;exact h1 rfl
 refine ⟨fun k hk=>Nat.lt_of_lt_of_le (h.lt k hk) hP.size,?_,h.Lm,h.pool.dB hP (fun y=>z _ .pool (by simp) y h.Lpp) (fun y=>z _ .pages (by simp) y h.Lpb),h.Lpp,h.Lpb,?_,h.Lp,fun k o' hk=>?_⟩
 ·obtain ⟨T,hr⟩:=h.mem;exact ⟨T,hP.row hr (fun y=>z _ .mem (by simp) y h.Lm)⟩
 ·refine hm.congr (fun k=>?_);show _=(eU ob x none k).map _;unfold eU
  by_cases e:k=x
  ·rw [if_pos e,if_pos e];rfl
  rw [if_neg e,if_neg e]
 have h1:ob k=some o':=by
  have d:eU ob x none k=some o':=hk
  by_cases e:k=x
  ·rw [e,aZ] at d;cases d
  rw [bD _ _ e] at d;exact d
 exact (h.th k o' h1).only hP (fun y hy=>⟨z y _ (by simp) hy,z y _ (by simp) hy,z y _ (by simp) hy⟩)
theorem aCO (w:World) (h:dO w L hb M X) (x:Int) (hx:wfI x) (y:M.ob x=none):Calls prog 300 #[.pointer (some ⟨hb,0,none⟩),.int .i64 x] w (aO w (.int .i64 3)):=by
 refine aF fun R d=>?_;have z:=oJ w h x hx y;clear h y;go_in;go_wp2_with fail;go_fit z;rintro e _ ⟨rfl,rfl⟩;go_wp2;exact d.o _ _ ⟨rfl,rfl⟩
theorem Hp.yF {M:Hp} {h:Int}:M.refers h h=false:=by unfold Hp.refers;simp
theorem Hp.aEA {M:Hp} {h k:Int} {o:Th} (z:M.ob k=some o) (y:k≠h):M.refers h k=decide (h∈o.fJ):=by unfold Hp.refers;rw [z];simp [y]
theorem aCN (w:World) (h:dO w L hb M X) (hk:M.Ok) (x:Int) (hx:wfI x) {o:Th} (ho:M.ob x=some o):Calls prog 300 #[.pointer (some ⟨hb,0,none⟩),.int .i64 x] w (wJ w L hb (.int .i64 (M.release x).1) (M.release x).2):=by
 refine aF fun R hR=>?_;have b9:M.release x=if M.held x then (13,M) else (0,M.drop x o):=by unfold Hp.release;rw [ho]
 have a1:=aA b9;have h1:=lU w h x hx ho;have c1:=h.cells.2.1;obtain ⟨D0,y4,a6⟩:=h.mp;have y3:wK D0 (fun k=>(M.ob k).map fun _=>X.blk k):=a6;have HD:=aA y3
 have H:=aA h;have HK:=aA hk;have y0:=aA ho;have a4:=aA y4;obtain ⟨mb,z5⟩:∃ m,m=X.mb:=⟨_,rfl⟩;rw [<-z5] at c1 a4;have x9:=aA z5;have d1:Hid (wfI x):=hx;clear b9 h hk ho y3 a6 y4 z5 hx;go_in;go_wp2_with fail;go_fit h1;rintro e _ ⟨rfl,rfl⟩;clear h1;go_wp2_with (at_range;refine wpList_range_own _ rfl _ 173 rfl 3 172 iE Tryz.underlying173 dV mb 192 D0 rfl a4.o ?_;intro w0 y5 b4 d6);go_frame;have Q0:Only [] w w0:=(Only.refl [] w).grown b4 (fun k hk=>by cases hk);clear c1;go_loopw [7] (fun _ wr=>∃ h7 cnt,wr.ranges prog 3 dV mb w.heap.size 192 D0 h7 cnt/\Hid (∀ k,wfI k->(M.ob k).isSome=true->h7 (.int .i64 k)=false->M.refers x k=false)/\Only [] w wr) (fun _ wr=>wr.rangeLeft mb w.heap.size)
 case atStart=>
  refine ⟨_,_,y5,fun k hk h3 h4=>?_,Q0⟩;rw [(HD.o k hk).1] at h4
  cases e:M.ob k with
  | none=>rw [e] at h3;cases h3
  | some t=>simp [e] at h4
 case round=>
  clear y5 b4 d6 Q0;obtain ⟨h7,cnt,c0,HF,hO⟩:=hrel;have y8:=aA c0;have HO:=aA hO;clear c0 hO;go_wp2_with (at_next;refine iH rfl _ rfl mb w.heap.size 192 D0 h7 cnt _ HD.o rfl y8.o ?_ ?_)
  ·intro _ b5;have z0:Hid (M.held x=false):=by
    show _=_
    cases e:M.held x
    ·rfl
    obtain ⟨k,d8,x2⟩:=Hp.mJ.1 e;have h2:(M.ob ((k:Int)+1)).isSome=true:=by
     unfold Hp.refers at x2
     cases e2:M.ob ((k:Int)+1) with
     | none=>rw [e2] at x2;simp at x2
     | some t=>rfl
    have:=HF.o ((k:Int)+1) (dI (by omega)) h2 (b5 _);rw [this] at x2;cases x2
   clear b5;have d:=H.o.aK HO.o;obtain ⟨b1,d5,_⟩:=HK.o.aCn y0.o;obtain ⟨g,cap,eb,z2⟩:=(d.th x o y0.o).bl.cellsOf b1;have c4:=(d.th x o y0.o).cells.2.2.2.2;rw [eb] at c4;have c7:Hid (L g=some (.bl x)):=(d.th x o y0.o).Ll g (by rw [eb];rfl);obtain ⟨nb,z6⟩:∃ n,n=o.blocks.length:=⟨_,rfl⟩;rw [<-z6] at c4 z2 d5;have z9:=aA z2;have c8:=aA z6;have b0:=aA d;clear eb z2 d z6 b1;obtain ⟨w9,c3⟩:∃ z,z=wr:=⟨_,rfl⟩;rw [<-c3] at HO b0 z9 c4 ⊢;clear c3 y8 HF;go_wp2;go_loopw [45] (fun iv wr=>∃ j:Nat,j<=nb/\iv=.int .i64 j/\dO wr L hb ⟨iL M.P o.blocks j,M.ob⟩ X/\Only [X.pb] w9 wr) (fun iv _=>nb - (intOf iv).toNat)
   case atStart=>exact ⟨0,by omega,rfl,b0.o,Only.refl _ _⟩
   case round=>
    clear c4;obtain ⟨j,hj,rfl,d,ho⟩:=hrel;have nC:=aA d;have y6:=aA ho;clear d ho;have z4:g∉[X.pb]:=by simp;rintro rfl;have:=nC.o.Lpb;rw [c7.o] at this;cases this
    by_cases x4:j<nb
    ·have b2:=y6.o.cell (z9.o j x4) z4;have h0:=nC.o.cells.1;have e3:(0:Int)<=j:=by omega
     have e4:(j:Int)<nb:=by omega
     have h6:=aNd wr X.pp X.pb (iL M.P o.blocks j) nC.o.pool (gI o.blocks j);have x8:Hid (iL M.P o.blocks (j+1)=((iL M.P o.blocks j).free (gI o.blocks j)).2):=rfl;generalize (iL M.P o.blocks j).free (gI o.blocks j)=fr at h6 x8;obtain ⟨f1,f2⟩:=fr;generalize gI o.blocks j=a at b2 h6;clear z4;go_wp2_with fail;go_fit h6;rintro e w5 ⟨rfl,b8,z7⟩;have d3:Hid (dO w5 L hb ⟨iL M.P o.blocks (j+1),M.ob⟩ X):=by
      show dO _ _ _ _ _;rw [x8.o];exact nC.o.gK z7 b8 (fun _=>rfl) (fun k o' h2=>⟨o',h2,Th.Shape.refl _⟩)
     have c9:=aA (y6.o.trans z7 (fun y hy=>.inl hy));clear b8 z7 h6 b2 h0;go_wp2;exact ⟨⟨j+1,by omega,by go_num,d3.o,c9.o⟩,by simp [intOf];omega⟩
    obtain rfl:j=nb:=by omega
    have c1:=nC.o.cells.2.1;rw [<-x9.o] at c1;obtain ⟨D1,h8,a9⟩:=nC.o.mp;have b3:wK D1 (fun k=>(M.ob k).map fun _=>X.blk k):=a9;have c6:=aA b3;rw [<-x9.o] at h8;have d4:=aA h8;clear a9 b3 h8 z4;go_wp2_with (at_delete;refine wpList_delete_own _ rfl _ _ 173 3 rfl 172 iE Tryz.underlying173 dV mb 192 D1 rfl d4.o _ _ rfl (aLt d1.o) ?_;intro w6 x7 a8);have O6:aI (·=X.mb) wr w6:=(aI.refl _ wr).grown a8.grown (fun k hk=>by cases hk;exact .inl x9.o);have b7:dS w6 X.mb 192 (fun k=>if k=x then none else (M.ob k).map fun _=>X.blk k):=⟨_,by rw [<-x9.o];exact x7,c6.o.del x⟩;have d2:=aA (nC.o.aQo O6 b7);have d0:Hid (aI (fun k=>L k≠none) w w6):=by
     have q1:aI (fun k=>L k≠none) w w9:=HO.o.vU;have q2:aI (fun k=>L k≠none) w9 wr:=y6.o.toP (fun y hy=>.inl (by simp at hy;rw [hy,H.o.Lpb];simp));have q3:aI (fun k=>L k≠none) wr w6:=O6.mono (fun y hy=>.inl (by rw [hy,H.o.Lp];simp));exact (q1.trans q2 (fun y hy=>.inl hy)).trans q3 (fun y hy=>.inl hy)
    clear O6 b7 x7 a8 c1;go_wp2;refine hR.o _ _ ?_;rw [a1.o,z0.o];refine ⟨rfl,L,X,?_,fun k hk=>.inl hk,d0.o⟩;have e:M.drop x o=⟨iL M.P o.blocks j,eU M.ob x none⟩:=by unfold Hp.drop;rw [c8.o]
    rw [show (if false=true then ((13:Int),M) else (0,M.drop x o)).2=M.drop x o from rfl,e];exact d2.o
  intro k c w1 x5 z8 b6 t ht hc x6 x4 z3 c2 d9;have y9:Hid (Only [] w w1):=HO.o.grown z3 (fun j hj=>by cases hj;exact .inr (Nat.le_refl _));have d:=H.o.aK y9.o;have a7:x5<wr.rangeLeft mb w.heap.size:=by rw [y8.o.left_eq];exact x4
  have y7:=aA x6;have kM:Hid (M.refers x k=false->∀ j,wfI j->(M.ob j).isSome=true->(h7 (.int .i64 j) && !(Lit.int .i64 j).sameKey (.int .i64 k))=false->M.refers x j=false):=fun e0 j hj e1 e2=>by
   by_cases e:j=k
   ·subst e;exact e0
   refine HF.o j hj e1 ?_;rw [aMe j k z8] at e2;simp [e] at e2;exact e2
  by_cases x3:k=x
  ·have z1:Hid (M.refers x k=false):=by show _=_;rw [x3];exact Hp.yF
   subst x3;clear x6 b6 x4 z3 c2 hc d z8 ht;go_wp2;exact ⟨⟨_,x5,y7.o,kM.o z1.o,y9.o⟩,by rw [y7.o.left_eq];exact a7⟩
  have e5:(k != x)=true:=by simpa using x3
  have h9:=rG w1 d HK.o ht;rw [hc] at h9;have a3:Hid (M.refers x k=decide (x∈t.fJ)):=Hp.aEA ht x3;have c5:Hid (t.fJ.length<=48):=by
   have h2:=t.jY t.slots.length;have h3:=(HK.o.th k t ht).le;show (t.fE t.slots.length).length<=48;omega
  have a0:Hid (1<=k/\k<=192):=HK.o.hr k t ht;generalize t.fJ=rl at*;clear x6 b6 x4 z3 c2 hc d z8 ht x3;go_wp2_with fail;go_fit h9;rintro e w2 ⟨v2,rfl,y1,y2⟩;have a5:=aA (y9.o.trans y2 (by simp));have a2:=aA (yH y7.o (y2.vU (S:=fun _=>False)) (fun x=>x) (fun x=>x));have h5:=qA w2 v2 rl y1.read (by have:=c5.o;omega) x;obtain ⟨e6,e7,d7⟩:=y1.len;subst d7;generalize rl.length=rn at *
  cases x1:decide (x∈rl)
  ·rw [x1] at h5;have z1:Hid (M.refers x k=false):=by show _=_;rw [a3.o,x1]
   clear y1 y2 h9 x1;go_wp2_with fail;go_fit h5;rintro e _ ⟨rfl,rfl⟩;clear h5;go_wp2;exact ⟨⟨_,x5,a2.o,kM.o z1.o,a5.o⟩,by rw [a2.o.left_eq];exact a7⟩
  rw [x1] at h5;have z0:Hid (M.held x=true):=Hp.mJ.2 ⟨k.toNat - 1,by have:=a0.o;omega,by
   rw [show ((k.toNat - 1:Nat):Int)+1=k by have:=a0.o;omega,a3.o,x1]⟩
  clear y1 y2 h9 x1;go_wp2_with fail;go_fit h5;rintro e _ ⟨rfl,rfl⟩;clear h5;go_wp2;refine hR.o _ _ ?_;rw [a1.o,z0.o];exact wJ.none0 H.o a5.o
theorem aEz (w:World) (h:dO w L hb M X) (z:M.Ok) (x:Int) (hx:wfI x):Calls prog 300 #[.pointer (some ⟨hb,0,none⟩),.int .i64 x] w (wJ w L hb (.int .i64 (M.release x).1) (M.release x).2):=by
 cases y:M.ob x with
 | none=>
  have d:M.release x=(3,M):=by unfold Hp.release;rw [y]
  rw [d];refine (aCO w h x hx y).mono ?_;rintro e _ ⟨rfl,rfl⟩;exact wJ.none h (lX.refl _)
 | some o=>exact aCN w h z x hx y
end
theorem aFu {P:Pl} {l:List Int} {k m:Nat} (h:dH P l k=none) (z:k<=m):dH P l m=none:=by
 induction m with
 | zero=>(obtain rfl:k=0:=(by omega));exact h
 | succ m y=>
  by_cases e:k=m+1
  ·rw [<-e];exact h
  unfold dH;rw [y (by omega)]
theorem jA {P Q:Pl} {l bs:List Int} {k:Nat} (h:dH P l k=some (bs,Q)):dH P l (k+1)=if (Q.alloc (gI l k)).2.1=0 then some (bs ++ [(Q.alloc (gI l k)).1],(Q.alloc (gI l k)).2.2) else none:=by
 unfold dH;rw [h]
theorem aPi (w:World) (n:Nat) (hn:n<=1000):Calls prog 218 #[.int .i64 n] w (aO w (.int .i64 (nG n))):=by
 refine aF fun R y=>?_
 by_cases z:n<=2
 ·have e:nG n=0:=by unfold nG;rw [if_pos z]
  rw [e] at y;have d:(n:Int)<=2:=by omega
  clear e;go_in;go_wp2;exact y.o _ _ ⟨rfl,rfl⟩
 have d:¬ (n:Int)<=2:=by omega
 by_cases h4:n<=4
 ·have e:nG n=1:=by unfold nG;rw [if_neg z,if_pos h4]
  rw [e] at y;have h0:(n:Int)<=4:=by omega
  clear e;go_in;go_wp2;exact y.o _ _ ⟨rfl,rfl⟩
 have e:nG n=2:=by unfold nG;rw [if_neg z,if_neg h4]
 rw [e] at y;have h0:¬ (n:Int)<=4:=by omega
 clear e;go_in;go_wp2;exact y.o _ _ ⟨rfl,rfl⟩
section
variable {w w':World} {L:Nat->Option Lb} {hb:Nat} {M:Hp} {X:HX}
theorem dO.aQV (h:dO w L hb M X) {hN:Int} {o:Th} {p' b' xb:Nat} {P':Pl} {rv bv:Value} (hg:aI (fun k=>L k=some .mem\/L k=some .map) w w')
  (hm:∃ T,Row w' hb T [.pointer (some ⟨p',0,none⟩),.map (some X.mb)]) (hp:dQ w' p' b' P') (x1:dS w' X.mb 192 (fun k=>if k=hN then some xb else (M.ob k).map fun _=>X.blk k))
  (h8:∃ T,Row w' xb T (aAt o rv bv)) (h7:Bls w' w.heap.size rv o.kP) (h5:aN w' w.heap.size bv o.blocks)
  (h1:w.heap.size<=p'/\p'<w'.heap.size) (h2:w.heap.size<=b'/\b'<w'.heap.size) (h3:w.heap.size<=xb/\xb<w'.heap.size)
  (d1:xb≠p') (d2:xb≠b') (d3:∀ g,rv.ownBlock=some g->g≠p'/\g≠b'/\g≠xb) (d4:∀ g,bv.ownBlock=some g->g≠p'/\g≠b'/\g≠xb/\rv.ownBlock≠some g) :
  ∃ L' X',dO w' L' hb ⟨P',eU M.ob hN (some o)⟩ X'/\∀ k,L' k≠none->L k≠none\/w.heap.size<=k:=by
 obtain ⟨L',z⟩:∃ L':Nat->Option Lb,L'=fun k=>if k=p' then some .pool else if k=b' then some .pages else if k=xb then some (.th hN) else if rv.ownBlock=some k then some (.rb hN) else if bv.ownBlock=some k then some (.bl hN) else L k:=⟨_,rfl⟩;have h0:∀ k,L k≠none->L' k=L k:=fun k y=>by
  have:=h.lt k y;rw [z];simp only;rw [if_neg (by omega),if_neg (by omega),if_neg (by omega),if_neg (fun e=>by have:=(h7.own k e).1;omega),if_neg (fun e=>by have:=(h5.own k e).1;omega)]
 have h4:∀ k,L' k≠none->L k≠none\/(w.heap.size<=k/\k<w'.heap.size):=fun k y=>by
  rw [z] at y;simp only at y
  by_cases e1:k=p'
  ·rw [e1];exact .inr h1
  rw [if_neg e1] at y
  by_cases e2:k=b'
  ·rw [e2];exact .inr h2
  rw [if_neg e2] at y
  by_cases e3:k=xb
  ·rw [e3];exact .inr h3
  rw [if_neg e3] at y
  by_cases e4:rv.ownBlock=some k
  ·exact .inr (h7.own k e4)
  rw [if_neg e4] at y
  by_cases e5:bv.ownBlock=some k
  ·exact .inr (h5.own k e5)
  rw [if_neg e5] at y;exact .inl y
 have h6:∀ k ℓ,ℓ≠Lb.mem->ℓ≠.map->(L k=some .mem\/L k=some .map)->L k≠some ℓ:=fun k ℓ e1 e2 y e=>by
  rcases y with y|y
  ·rw [y] at e;cases e;exact e1 rfl
  rw [y] at e;cases e;exact e2 rfl
 have x2:=hp.ne;refine ⟨L',⟨p',b',X.mb,fun k=>if k=hN then xb else X.blk k,fun k=>if k=hN then rv else X.rv k,fun k=>if k=hN then bv else X.bv k⟩,⟨fun k y=>?_,hm,sD h0 h.Lm,hp,by rw [z];simp,by rw [z];simp [Ne.symm x2],?_,sD h0 h.Lp,fun k u y=>?_⟩,fun k y=>(h4 k y).imp id (fun e=>e.1)⟩
 ·rcases h4 k y with e|e
  ·exact Nat.lt_of_lt_of_le (h.lt k e) hg.size
  exact e.2
 ·refine x1.congr (fun k=>?_);show _=(eU M.ob hN (some o) k).map fun _=>if k=hN then xb else X.blk k
  by_cases e:k=hN
  ·rw [e,aZ,if_pos rfl,if_pos rfl];rfl
  rw [bD _ _ e,if_neg e,if_neg e]
 show aEl w' L' k (if k=hN then xb else X.blk k) (if k=hN then rv else X.rv k) (if k=hN then bv else X.bv k) u;rcases aW y with ⟨rfl,rfl⟩|⟨e,h9⟩
 ·rw [if_pos rfl,if_pos rfl,if_pos rfl];refine ⟨h8,?_,h7.base (Nat.zero_le _),fun g d=>?_,h5.base (Nat.zero_le _),fun g d=>?_⟩
  ·rw [z];simp [d1,d2]
  ·obtain ⟨a1,a2,a3⟩:=d3 g d;rw [z];simp [a1,a2,a3,d]
  obtain ⟨a1,a2,a3,a4⟩:=d4 g d;rw [z];simp [a1,a2,a3,a4,d]
 rw [if_neg e,if_neg e,if_neg e];exact ((h.th k u h9).only hg (fun x hx=>⟨h6 x _ (by simp) (by simp) hx,h6 x _ (by simp) (by simp) hx,h6 x _ (by simp) (by simp) hx⟩)).lab h0
end
set_option maxHeartbeats 6400000
theorem aN.one (w:World) (c:Int):aN (w.alloc (.cells #[.int .i64 c] 3)) w.heap.size (.slice (some ⟨w.heap.size,0,none⟩) 1 1) [c]:=
 ⟨by simp,.inr ⟨w.heap.size,1,#[.int .i64 c],rfl,Nat.le_refl _,Row.new w 3 [.int .i64 c],Nat.le_refl _,by decide,rfl,rfl⟩⟩
theorem yP {n:Nat} (h:¬ 7<n):aT n=[nG (1+n)]:=by unfold aT;rw [if_neg h]
theorem aAQ {n j:Nat} (h:7<n) (d:¬ j*8<n) (z:(j - 1)*8<n) (y:0<j):nG (1+n) :: List.replicate j 2=aT n:=by
 unfold aT;rw [if_pos h];have:j=(n+7) / 8:=by omega
 rw [this]
theorem aGn (c:Int) (j:Nat):c :: (List.replicate j (2:Int) ++ [2])=c :: List.replicate (j+1) 2:=by
 rw [<-List.replicate_succ']
section
variable {w0:World} {L:Nat->Option Lb} {hb:Nat} {M:Hp} {X:HX}
theorem aAX {k:Nat} (z:k<192) (h:∀ j,j<k->M.ob ((j:Int)+1)≠none) (y:M.ob ((k:Int)+1)=none):M.least=k:=
 lD (f:=fun k=>(M.ob ((k:Int)+1)).isNone) z (by simp [y]) (fun j hj=>by
  cases e:M.ob ((j:Int)+1) with
  | none=>exact absurd e (h j hj)
  | some o=>simp)
theorem aAY (h:∀ j:Nat,j<192->M.ob ((j:Int)+1)≠none):¬ M.least<192:=by
 have:=fP (f:=fun k=>(M.ob ((k:Int)+1)).isNone) (m:=192) (fun j hj=>by
  cases e:M.ob ((j:Int)+1) with
  | none=>exact absurd e (h j hj)
  | some o=>simp)
 unfold Hp.least;omega
theorem aGu {o:Th} (h:¬ M.least<192):M.add o=(0,14,M):=by unfold Hp.add;rw [if_neg h]
theorem aCo {o:Th} {k:Nat} (y:k<=(aT o.slots.length).length) (h:dH M.P (aT o.slots.length) k=none):M.add o=(0,14,M):=by
 unfold Hp.add;split
 ·rw [aFu h y]
 rfl
theorem aGt {o:Th} {bs:List Int} {Q:Pl} (y:M.least<192) (h:dH M.P (aT o.slots.length) (aT o.slots.length).length=some (bs,Q)) :
  M.add o=((M.least:Int)+1,0,⟨fK Q ((M.least:Int)+1) bs,eU M.ob ((M.least:Int)+1) (some { o with blocks:=bs })⟩):=by
 unfold Hp.add;rw [if_pos y,h]
theorem aCp {w9:World} (h:dO w0 L hb M X) (hk:M.Ok) {o:Th} {kd cl:Int} {n:Nat} {rv bv:Value} {p' b' xb T:Nat} {Q:Pl} {bs:List Int} (hl:M.least<192)
  (hs:dH M.P (aT o.slots.length) (aT o.slots.length).length=some (bs,Q)) (hp:dQ w9 p' b' (fK Q ((M.least:Int)+1) bs)) (ho:Only [] w0 w9)
  (h1:Row w9 xb T [.int .i64 kd,.int .i64 cl,.int .i64 n,rv,bv]) (e1:kd=o.kind) (e2:cl=o.cls) (e3:n=o.slots.length)
  (h3:Bls w9 w0.heap.size rv o.kP) {base:Nat} (h0:aN w9 base bv bs) (hx:w0.heap.size<=xb) (h4:∀ g,rv.ownBlock=some g->g<xb) (y1:xb<p') (x7:xb<b') (y2:p'<base) (x8:b'<base) :
  ∃ y,(Instr.mapUpdate 173 (.map (some X.mb)) (.int .i64 ((M.least:Int)+1)) (.pointer (some ⟨xb,0,none⟩))).run prog (w9.setCell ⟨hb,0,none⟩ (.pointer (some ⟨p',0,none⟩)))=.ok () y/\
   wJ w0 L hb (.tuple #[.int .i64 (M.add o).1,.int .i64 (M.add o).2.1]) (M.add o).2.2 (.returned (.tuple #[.int .i64 ((M.least:Int)+1),.int .i64 0])) y:=by
 have h2:hb≠X.mb:=by rintro e;have:=h.Lm;rw [e,h.Lp] at this;cases this
 have hO:aI (·=hb) w0 (w9.setCell ⟨hb,0,none⟩ (.pointer (some ⟨p',0,none⟩))):=(ho.vU (S:=(·=hb))).set (.inl rfl) _;have h8:=h.mp.only hO (fun e=>h2 e.symm);have x5:wfI ((M.least:Int)+1):=dI (by omega);obtain ⟨y,h5,h7,d⟩:=h8.store (by omega) x5 xb;have O9:aI (fun k=>k=hb\/k=X.mb) w9 y:=((aI.refl (fun k=>k=hb\/k=X.mb) w9).set (p:=⟨hb,0,none⟩) (.inl (.inl rfl)) (.pointer (some ⟨p',0,none⟩))).grown d (fun k hk=>by cases hk;exact .inl (.inr rfl));have y0:=h.mp.lt;have x9:hb<w0.heap.size:=h.lt hb (by rw [h.Lm];simp);have y3:=ho.size;have x6:=O9.size;obtain ⟨_,_,_,_,f1,f2⟩:=hp.facts;have y4:=h1.lt;have z:∀ k,w0.heap.size<=k->¬ (k=hb\/k=X.mb):=fun k hk e=>by rcases e with e|e<;>omega
 have x3:=(h.aK ho).mem;obtain ⟨Tm,x4⟩:=x3;have x1:=x4.set 0 (.pointer (some ⟨p',0,none⟩));have h9:Row y hb Tm [.pointer (some ⟨p',0,none⟩),.map (some X.mb)]:=x1.grown d (by intro e;cases e;exact h2 rfl);have O0:aI (fun k=>L k=some .mem\/L k=some .map) w0 y:=(ho.vU (S:=fun k=>L k=some .mem\/L k=some .map)).trans O9 (fun x hx=>by
  rcases hx with rfl|rfl
  ·exact .inl (.inl h.Lm)
  exact .inl (.inr h.Lp))
 have h6:Row y xb T (aAt { o with blocks:=bs } rv bv):=by
  have:=O9.row h1 (z xb hx);unfold aAt;rw [<-e1,<-e2,<-e3];exact this
 have x2:dS y X.mb 192 (fun k=>if k=(M.least:Int)+1 then some xb else (M.ob k).map fun _=>X.blk k):=h7.bound (fun k hs=>by
  by_cases e:k=(M.least:Int)+1
  ·omega
  simp only [e,if_false] at hs
  cases eo:M.ob k with
  | none=>rw [eo] at hs;cases hs
  | some u=>exact hk.hr k u eo)
 obtain ⟨L',X',q1,q2⟩:=h.aQV (w':=y) (hN:=(M.least:Int)+1) (o:={ o with blocks:=bs }) (p':=p') (b':=b') (xb:=xb) (P':=fK Q ((M.least:Int)+1) bs) (rv:=rv) (bv:=bv) O0 ⟨Tm,h9⟩
  (hp.dB O9 (z p' (by omega)) (z b' (by omega))) x2 ⟨T,h6⟩ (h3.dB O9 (fun g d=>z g (h3.own g d).1)) ((h0.base (b:=w0.heap.size) (by omega)).dB O9 (fun g d=>z g (by have:=(h0.own g d).1;omega)))
  ⟨by omega,by omega⟩ ⟨by omega,by omega⟩ ⟨hx,by omega⟩ (by omega) (by omega) (fun g d=>by have:=h4 g d;omega)
  (fun g d=>⟨by have:=(h0.own g d).1;omega,by have:=(h0.own g d).1;omega,by have:=(h0.own g d).1;omega,fun e=>by have:=(h0.own g d).1;have:=h4 g e;omega⟩)
 refine ⟨y,h5,?_⟩;rw [aGt hl hs];refine ⟨rfl,L',X',q1,q2,O0.mono (fun x hx=>.inl (by rcases hx with e|e<;>rw [e]<;>simp))⟩
theorem aLm (w:World) (h:dO w0 L hb M X) (hk:M.Ok) (hw:Only [] w0 w) (o:Th) (ho:o.ok1) (rv:Value) (l0:Bls w w0.heap.size rv o.kP) :
  Calls prog 164 #[.pointer (some ⟨hb,0,none⟩),.agg #[.int .i64 o.kind,.int .i64 o.cls,.int .i64 o.slots.length,rv,.slice none 0 0]] w
   (wJ w0 L hb (.tuple #[.int .i64 (M.add o).1,.int .i64 (M.add o).2.1]) (M.add o).2.2):=by
 refine aF fun R hR=>?_;obtain ⟨ra,rc,k9⟩:=l0.len;have j2:=ho.le;obtain ⟨rn,i1⟩:∃ b,b=o.kP.length:=⟨_,rfl⟩;obtain ⟨n,hn⟩:∃ b,b=o.slots.length:=⟨_,rfl⟩;obtain ⟨kd,k8⟩:∃ b,b=o.kind:=⟨_,rfl⟩;obtain ⟨cl,k4⟩:∃ b,b=o.cls:=⟨_,rfl⟩;have g8:=aA l0;rw [k9,<-i1] at g8;rw [k9,<-i1,<-hn,<-k8,<-k4];have H:=aA h;have OK:=aA hk;have HW:=aA hw;have HN:=aA hn;have g6:=aA k8;have g3:=aA k4;have n4:=aA i1;rw [<-hn] at j2;have a7:Hid (Only [] w0 (w.alloc (.cells #[.int .i64 kd,.int .i64 cl,.int .i64 n,.slice ra rn rc,.slice none 0 0] 184))):=hw.alloc _;have qR:Hid (Row (w.alloc (.cells #[.int .i64 kd,.int .i64 cl,.int .i64 n,.slice ra rn rc,.slice none 0 0] 184)) w.heap.size 184 [.int .i64 kd,.int .i64 cl,.int .i64 n,.slice ra rn rc,.slice none 0 0]):=Row.new w _ [_,_,_,_,_];have g9:Hid (Bls (w.alloc (.cells #[.int .i64 kd,.int .i64 cl,.int .i64 n,.slice ra rn rc,.slice none 0 0] 184)) w0.heap.size (.slice ra rn rc) o.kP):=g8.o.alloc _;have z7:Hid (∀ g,(Value.slice ra rn rc).ownBlock=some g->g<w.heap.size):=fun g hg=>(g8.o.own g hg).2;have HX:Hid (w0.heap.size<=w.heap.size):=hw.size;have g2:w.heap.size<(w.alloc (.cells #[.int .i64 kd,.int .i64 cl,.int .i64 n,.slice ra rn rc,.slice none 0 0] 184)).heap.size:=by simp
 clear h hk hw l0 ho k9;clear hn k8 k4 i1;go_in;go_wp2_with fail;generalize (w.alloc (.cells #[.int .i64 kd,.int .i64 cl,.int .i64 n,.slice ra rn rc,.slice none 0 0] 184))=w1 at*;obtain ⟨xb,m4⟩:∃ b,b=w.heap.size:=⟨_,rfl⟩;rw [<-m4] at qR z7 HX g2 ⊢;clear m4 g8 HW;have g5:=aA (H.o.aK a7.o);have c1:=g5.o.cells.2.1;go_loopw [6] (fun iv wr=>∃ k:Nat,k<=192/\iv=.int .i64 ((k:Int)+1)/\w1=wr/\Hid (∀ j:Nat,j<k->M.ob ((j:Int)+1)≠none)) (fun iv _=>193 - (intOf iv).toNat)
 case atStart=>exact ⟨0,by omega,rfl,rfl,fun j hj=>by omega⟩
 case round=>
  obtain ⟨k,hk,rfl,rfl,HF⟩:=hrel
  cases b6:M.ob ((k:Int)+1) with
  | some o'=>
   have hl:=g5.o.lK (dI (by omega)) b6;have m1:k<192:=by have:=(OK.o.hr _ _ b6).2;omega
   have y4:=aA b6;clear b6;go_wp2;refine ⟨⟨k+1,by omega,by go_num,by trivial,fun j hj=>?_⟩,by simp [intOf];omega⟩
   by_cases e:j=k
   ·rw [e,y4.o];simp
   exact HF.o j (by omega)
  | none=>
   have hl:=g5.o.rX (dI (by omega)) b6;have y4:=aA b6;clear b6
   by_cases l7:k=192
   ·have n5:(192:Int)<(k:Int)+1:=by omega
    have d6:Hid (M.add o=(0,14,M)):=aGu (aAY (fun j hj=>HF.o j (by omega)));clear l7;go_wp2;refine hR.o _ _ ?_;rw [d6.o];exact wJ.none0 H.o a7.o
   have n2:¬ (192:Int)<(k:Int)+1:=by omega
   have l9:Hid (True->M.least=k):=fun _=>aAX (by omega) HF.o y4.o;obtain ⟨hN,k6⟩:∃ z:Int,z=(k:Int)+1:=⟨_,rfl⟩;rw [<-k6] at hl n2 ⊢;have a5:Hid (True->hN=(M.least:Int)+1):=fun _=>by rw [l9.o trivial];exact k6
   have g7:Hid (True->M.least<192):=fun _=>by rw [l9.o trivial];omega
   have b2:w1.cell? ⟨xb,2,none⟩=_:=qR.o.cell 2 rfl;have i3:Calls prog 218 #[.int .i64 (1+(n:Int))] w1 (aO w1 (.int .i64 (nG (1+n)))):=by
    have:=aPi w1 (1+n) (by omega);rwa [show ((1+n:Nat):Int)=1+(n:Int) by omega] at this
   clear k6 HF y4;go_wp2_with fail;go_fit i3;rintro e _ ⟨rfl,rfl⟩;clear i3;have y5:Hid (aN (w1.alloc (.cells #[.int .i64 (nG (1+n))] 3)) w1.heap.size (.slice (some ⟨w1.heap.size,0,none⟩) 1 1) [nG (1+n)]):=aN.one w1 _;have x6:Hid (Only [] w1 (w1.alloc (.cells #[.int .i64 (nG (1+n))] 3))):=(Only.refl [] w1).alloc _;have d2:(w1.alloc (.cells #[.int .i64 (nG (1+n))] 3)).cell? ⟨xb,2,none⟩=_:=x6.o.cell b2 (by simp);clear b2 c1 hl;have d0:(w1.alloc (.cells #[.int .i64 (nG (1+n))] 3)).cell? ⟨hb,0,none⟩=_:=x6.o.cell g5.o.cells.1 (by simp);have g0:w1.heap.size<(w1.alloc (.cells #[.int .i64 (nG (1+n))] 3)).heap.size:=by simp
   by_cases h7:7<n
   ·have j9:(7:Int)<n:=by omega
    have H7:=aA h7;go_wp2_with fail;generalize (w1.alloc (.cells #[.int .i64 (nG (1+n))] 3))=w2 at*;obtain ⟨sg,f8⟩:∃ z,z=w1.heap.size:=⟨_,rfl⟩;rw [<-f8] at y5 g0 ⊢;have a8:Hid (xb<sg):=by show xb<sg;omega
    have m0:Hid (sg=w1.heap.size):=f8;clear d0 d2 h7 j9 g2 g0 f8;go_loopw [7,8] (fun v iv wr=>∃ j:Nat,iv=.int .i64 (j*8:Nat)/\j<=6/\(j=0\/(j - 1)*8<n)/\aN wr sg v (nG (1+n) :: List.replicate j 2)/\Only [] w1 wr) (fun _ iv _=>49 - (intOf iv).toNat)
    case atStart=>exact ⟨0,rfl,by omega,.inl rfl,y5.o,x6.o⟩
    case round=>
     clear y5 x6 w2;obtain ⟨j,rfl,m9,hj,i2,ho⟩:=hrel;obtain ⟨va,vc,hv⟩:=i2.len;rw [show (nG (1+n) :: List.replicate j (2:Int)).length=j+1 by simp] at hv;subst hv;have b2:=ho.cell (qR.o.cell 2 rfl) (by simp);have y5:=aA i2;have x6:=aA ho;obtain ⟨ji,i0⟩:∃ z:Int,z=((j*8:Nat):Int):=⟨_,rfl⟩;rw [<-i0];have l8:=aA i0
     by_cases f4:j*8<n
     ·have a6:ji<(n:Int):=by omega
      have c0:0<=ji:=by omega
      obtain ⟨jn,k7⟩:∃ z,z=j+1:=⟨_,rfl⟩;rw [<-k7] at y5 ⊢;have n3:=aA k7;clear i0 i2 ho k7;go_wp2_with (at_builtin;refine bH rfl _ _ rfl sg _ _ rfl (y5.o.alloc _) wr.heap.size 2 rfl ?c1 ?c2 ?c3 ?c4)
      case c1=>exact (Row.new wr _ [_]).cell 0 rfl
      case c2=>simp;omega
      case c3=>have:=x6.o.size;have:=m0.o;simp;omega
      case c4=>
       intro v' w5 m3 m2 d9;have m5:=aA m3;have h8:Hid (Only [] w1 w5):=(x6.o.alloc _).trans m2 (fun x hx=>.inr (by have:=(y5.o.own x (by simpa using hx)).1;have:=m0.o;omega));clear m3 m2 d9 y5 x6;go_wp2;refine ⟨⟨j+1,?_,?_,?_,?_,h8.o⟩,?_⟩
       ·have:=l8.o;go_num
       ·omega
       ·right;show j*8<n;omega
       ·have:=m5.o;rw [aGn] at this;exact this
       have:=l8.o;simp [intOf];omega
     have a6:¬ ji<(n:Int):=by omega
     have c5:Hid (nG (1+n) :: List.replicate j (2:Int)=aT n):=aAQ H7.o f4 (by have:=H7.o;omega) (by have:=H7.o;omega);have z8:=aA (show aN wr sg (.slice va (j+1) vc) (aT n) by rw [<-c5.o];exact y5.o);have y4:Hid (Only [] w0 wr):=a7.o.trans x6.o (by simp);have d1:Hid (Row wr xb 184 [.int .i64 kd,.int .i64 cl,.int .i64 n,.slice ra rn rc,.slice none 0 0]):=x6.o.row qR.o (by simp);have d5:Hid (Bls wr w0.heap.size (.slice ra rn rc) o.kP):=g9.o.only x6.o (by simp);have d0:=(H.o.aK y4.o).cells.1;have d4:=aA (sW wr X.pp X.pb M.P (H.o.aK y4.o).pool);generalize Value.slice va (j+1) vc=v7 at*;clear y5 c5 g9 qR i2 ho i0 hj m9;go_wp2_with fail;generalize g0:wr=w2 at*;clear g0 d0 b2;obtain ⟨g,sc,l5,j6,k5,l4⟩:∃ g sc,v7=.slice (some ⟨g,0,none⟩) (aT n).length sc/\sg<=g/\g<w2.heap.size/\(aT n).length<=sc:=by
      rcases z8.o.form with ⟨_,e⟩|⟨g,sc,e1,e2,e3,e4,_⟩
      ·have:=kC n;rw [e] at this;simp at this
      exact ⟨g,sc,e1,e2,e3,e4⟩
     subst l5;have l1:=kC n;have l3:=wU n j2;obtain ⟨sn,b7⟩:∃ z,z=(aT n).length:=⟨_,rfl⟩;rw [<-b7] at l1 l3 z8 l4 ⊢;have y0:=aA b7;clear b7;go_fit d4.o;rintro e w3 ⟨p',b',rfl,a2,z2,j7,j4⟩;have y3:Hid (Only [] w0 w3):=y4.o.trans z2 (by simp);have d3:Hid (Row w3 xb 184 [.int .i64 kd,.int .i64 cl,.int .i64 n,.slice ra rn rc,.slice none 0 0]):=z2.row d1.o (by simp);have d7:Hid (Bls w3 w0.heap.size (.slice ra rn rc) o.kP):=d5.o.only z2 (by simp);have j5:Hid (aN w3 sg (.slice (some ⟨g,0,none⟩) sn sc) (aT n)):=z8.o.only z2 (by simp);obtain ⟨_,_,_,_,e9,f0⟩:=a2.facts;have HB:Hid (xb<p'/\xb<b'/\g<b'/\xb<g/\p'<w3.heap.size/\b'<w3.heap.size/\p'≠b'/\w0.heap.size<=xb):=⟨by have:=a8.o;omega,by have:=a8.o;omega,by omega,by have:=a8.o;omega,e9,f0,a2.ne,HX.o⟩;have c8:=aA a2;clear d4 x6 a7 y4 d1 d5 z8 z2 j7 j4 e9 f0 a2 j6 k5;obtain ⟨b3,e5⟩:∃ z,z=w3.heap.size:=⟨_,rfl⟩;have h6:=aA e5;clear e5;go_wp2;go_loopw [51] (fun iv wr=>∃ (k:Nat) (bs:List Int) (Q:Pl) (bv:Value),k<=sn/\iv=.int .i64 k/\Hid (True->dH M.P (aT n) k=some (bs,Q))/\dQ wr p' b' Q/\aN wr b3 bv bs/\Row wr xb 184 [.int .i64 kd,.int .i64 cl,.int .i64 n,.slice ra rn rc,bv]/\Only [xb,b'] w3 wr) (fun iv _=>sn - (intOf iv).toNat)
     case atStart=>exact ⟨0,[],M.P,.slice none 0 0,by omega,rfl,fun _=>rfl,c8.o,aN.nil _ _,d3.o,Only.refl _ _⟩
     case round=>
      clear c8 d3;obtain ⟨k,bs,Q,bv,hk,rfl,x8,hp,b5,z4,ho⟩:=hrel;have b4:bs.length=k:=(eF OK.o.p (l:=aT n) (fun m hm=>dP _ hm) k (by have:=y0.o;omega) bs Q (x8.o trivial)).len;obtain ⟨ba,bc,e6⟩:=b5.len;rw [b4] at e6;subst e6;have x4:=aA b4;have HP:=aA hp;have x5:=aA b5;have oM:=aA z4;have HO:=aA ho;have c4:wr.cell? ⟨xb,4,none⟩=_:=z4.cell 4 rfl;clear hp b5 z4 ho b4
      by_cases f4:k<sn
      ·have a6:(k:Int)<sn:=by omega
       have n1:(0:Int)<=k:=by omega
       have e8:wr.cell? ⟨g,k,none⟩=some (.int .i64 (gI (aT n) k)):=by
        rcases (j5.o.only HO.o (fun g' h0=>by cases h0;have:=HB.o;simp;omega)).form with ⟨e,_⟩|⟨g',c',e1,_,_,_,h5⟩
        ·cases e
        cases e1;exact h5 k (by have:=y0.o;omega)
       have z9:=aEb wr p' b' Q HP.o (gI (aT n) k);obtain ⟨c,hc⟩:∃ z,z=gI (aT n) k:=⟨_,rfl⟩;rw [<-hc] at e8 z9;obtain ⟨r,hr⟩:∃ z,z=Q.alloc c:=⟨_,rfl⟩;rw [<-hr] at z9;have HR:=aA hr;have HC:=aA hc;obtain ⟨a1,e1,Q1⟩:=r;clear hr hc c4;go_wp2_with fail;go_fit z9;rintro e w5 ⟨rfl,z3,x3⟩;have x9:Hid (dQ w5 p' b' Q1):=z3;have h8:Hid (Only [xb,b'] w3 w5):=HO.o.trans x3 (fun x hx=>.inl (by simp at hx;simp [hx]));have kN:Hid (Row w5 xb 184 [.int .i64 kd,.int .i64 cl,.int .i64 n,.slice ra rn rc,.slice ba k bc]):=x3.row oM.o (by have:=HB.o;simp;omega);have vP:Hid (aN w5 b3 (.slice ba k bc) bs):=x5.o.only x3 (fun g' h0=>by have:=(x5.o.own g' h0).1;have:=HB.o;have:=h6.o;simp;omega);have c4:w5.cell? ⟨xb,4,none⟩=_:=kN.o.cell 4 rfl;clear z9 z3 x3 e8 oM x5 HO HP
       by_cases he:e1=0
       ·subst he;go_wp2_with (at_builtin;refine bH rfl _ _ rfl b3 _ _ rfl (vP.o.alloc _) w5.heap.size a1 rfl ?c1 ?c2 ?c3 ?c4)
        case c1=>exact (Row.new w5 _ [_]).cell 0 rfl
        case c2=>have:=x4.o;omega
        case c3=>have:=h8.o.size;have:=h6.o;simp;omega
        case c4=>
         intro v' w6 a4 y1 k2;obtain ⟨h9,x1,f9⟩:=a4.len;obtain ⟨nb,f5⟩:∃ z,z=(bs ++ [a1]).length:=⟨_,rfl⟩;rw [<-f5] at f9;subst f9;clear f5 k2;have x7:∀ x∈(Value.slice ba k bc).ownBlock.toList,b3<=x:=fun x hx=>(vP.o.own x (by simpa using hx)).1;have b9:∀ x∈(Value.slice ba k bc).ownBlock.toList,x<w5.heap.size:=fun x hx=>(vP.o.own x (by simpa using hx)).2;have hB:=HB.o;have k1:=h6.o;have a3:=y1.row (kN.o.alloc (.cells #[.int .i64 a1] 3)) (fun hx=>by have:=x7 _ hx;omega);have f6:=a3.free 4;have c6:w6.cell? ⟨xb,4,none⟩=_:=a3.cell 4 rfl;have i8:Hid (dQ (w6.setCell ⟨xb,4,none⟩ (.slice h9 nb x1)) p' b' Q1):=
          (((x9.o.only ((Only.refl [] w5).alloc (.cells #[.int .i64 a1] 3)) (by simp) (by simp)).only y1 (fun hx=>by have:=x7 _ hx;omega) (fun hx=>by have:=x7 _ hx;omega)).only ((Only.refl [xb] w6).set (p:=⟨xb,4,none⟩) (.inl (by simp)) (.slice h9 nb x1)) (by simp;omega) (by simp;omega))
         have j0:Hid (aN (w6.setCell ⟨xb,4,none⟩ (.slice h9 nb x1)) b3 (.slice h9 nb x1) (bs ++ [a1])):=a4.only ((Only.refl [xb] w6).set (p:=⟨xb,4,none⟩) (.inl (by simp)) (.slice h9 nb x1)) (fun g' h0=>by have:=(a4.own g' h0).1;simp;omega);have j1:Hid (Row (w6.setCell ⟨xb,4,none⟩ (.slice h9 nb x1)) xb 184 [.int .i64 kd,.int .i64 cl,.int .i64 n,.slice ra rn rc,(.slice h9 nb x1)]):=a3.set 4 (.slice h9 nb x1);have i6:Hid (Only [xb,b'] w3 (w6.setCell ⟨xb,4,none⟩ (.slice h9 nb x1))):=((h8.o.alloc _).trans y1 (fun x hx=>.inr (by have:=x7 _ hx;omega))).set (.inl (by simp)) _;have j3:Hid (True->dH M.P (aT n) (k+1)=some (bs ++ [a1],Q1)):=fun _=>by
          rw [jA (x8.o trivial),<-HC.o,<-HR.o];rfl
         clear a4 y1 x7 b9 hB k1 a3 x9 h8 kN vP c4 x8;go_wp2;exact ⟨⟨k+1,bs ++ [a1],Q1,(.slice h9 nb x1),by omega,by go_num,j3,i8.o,j0.o,j1.o,i6.o⟩,by simp [intOf];omega⟩
       have d6:Hid (True->M.add o=(0,14,M)):=fun _=>aCo (k:=k+1) (by rw [<-HN.o,<-y0.o];omega) (by
        rw [<-HN.o,jA (x8.o trivial),<-HC.o,<-HR.o];show (if e1=0 then _ else _)=_;rw [if_neg he])
       go_wp2;refine hR.o _ _ ?_;rw [d6.o trivial];exact wJ.none0 H.o (y3.o.trans h8.o (fun x hx=>.inr (by have:=HB.o;have:=y3.o.size;simp at hx;rcases hx with rfl|rfl<;>omega)))
      obtain rfl:k=sn:=by omega
      obtain ⟨g4,k3,e7,m8⟩:∃ g4,ba=some ⟨g4,0,none⟩/\b3<=g4/\k<=bc:=by
       rcases x5.o.form with ⟨e,e2⟩|⟨g4,c',e1,e2,_,e4,_⟩
       ·rw [e2] at x4;have:=x4.o;simp at this;omega
       cases e1;rw [x4.o] at e4;exact ⟨g4,rfl,e2,e4⟩
      subst k3;have i4:=aA e7;have z5:Hid (∀ i,i<k->∀ wx F,Only F wr wx->g4∉F->wx.cell? ⟨g4,i,none⟩=some (.int .i64 (gI bs i))):=fun i hi wx F hox hgf=>by
       rcases x5.o.form with ⟨e,_⟩|⟨g',c',e1,_,_,_,h5⟩
       ·cases e
       cases e1;exact hox.cell (h5 i (by rw [x4.o];exact hi)) hgf
      have b0:=z5.o 0 (by omega) wr [] (Only.refl _ _) (by simp);have d:=iT wr p' b' Q HP.o (gI bs 0) hN;obtain ⟨a0,b1⟩:∃ z,z=gI bs 0:=⟨_,rfl⟩;rw [<-b1] at b0 d;have z6:=aA b1;obtain ⟨r,hr⟩:∃ z,z=Q.setCell a0 hN:=⟨_,rfl⟩;rw [<-hr] at d;have HR:=aA hr;obtain ⟨e1,Q1⟩:=r;clear hr b1 e7;go_wp2_with fail;go_fit d;rintro e w5 ⟨rfl,z3,x3⟩;have x9:Hid (dQ w5 p' b' Q1):=z3;have h8:Hid (Only [xb,b'] w3 w5):=HO.o.trans x3 (fun x hx=>.inl (by simp at hx;simp [hx]));have kN:Hid (Row w5 xb 184 [.int .i64 kd,.int .i64 cl,.int .i64 n,.slice ra rn rc,.slice (some ⟨g4,0,none⟩) k bc]):=x3.row oM.o (by have:=HB.o;simp;omega);have vP:Hid (aN w5 b3 (.slice (some ⟨g4,0,none⟩) k bc) bs):=x5.o.only x3 (fun g' h0=>by have:=(x5.o.own g' h0).1;have:=HB.o;have:=h6.o;simp;omega);have d8:w5.cell? ⟨xb,4,none⟩=_:=kN.o.cell 4 rfl;have m6:0<=a0/\a0<=384:=by
       have s:=eF OK.o.p (l:=aT n) (fun m hm=>dP _ hm) k (by have:=y0.o;omega) bs Q (x8.o trivial);have h1:=(s.new 0 (by omega)).range (dP _ (by have:=y0.o;omega));have h2:=s.n;have h3:=OK.o.n24;rw [<-z6.o] at h1;omega
      have sN:Hid (∀ i,i<k->∀ wx,Only [b'] w5 wx->wx.cell? ⟨g4,i,none⟩=some (.int .i64 (gI bs i))):=fun i hi wx hox=>by
       rcases vP.o.form with ⟨e,_⟩|⟨g',c',e1,_,_,_,h5⟩
       ·cases e
       cases e1;exact hox.cell (h5 i (by rw [x4.o];exact hi)) (by have:=i4.o;have:=HB.o;have:=h6.o;simp;omega)
      clear d z3 x3 oM x5 HO HP c4 b0 z5
      by_cases d9:bc=1
      ·subst d9;obtain rfl:k=1:=by omega
       go_wp2;go_loopw [81] (fun iv wr=>iv=.int .i64 0/\w5=wr) (fun _ _=>0)
       case atStart=>exact ⟨rfl,rfl⟩
       case round=>
        obtain ⟨rfl,rfl⟩:=hrel;have y6:Hid (Only [xb,b'] w3 w5):=h8;have y7:Hid (dQ w5 p' b' (fK Q hN bs)):=by
         show dQ _ _ _ (fK Q hN bs);have e:fK Q hN bs=Q1:=by
          unfold fK;rw [x4.o,<-z6.o,<-HR.o];rfl
         rw [e];exact x9.o
        have y8:=kN;have z1:=vP;clear h8 x9 kN vP d8 sN;generalize b8:w5=w9 at*;clear b8;have y9:Hid (Only [] w0 w9):=y3.o.trans y6.o (fun x hx=>.inr (by have:=HB.o;have:=y3.o.size;simp at hx;rcases hx with rfl|rfl<;>omega))
        have x2:=(H.o.aK y9.o);have e0:=x2.cells.1;have j8:=x2.cells.2.1;have ef:=x2.cells.2.2 0;have h4:=aCp (w9:=w9) (o:=o) (kd:=kd) (cl:=cl) (n:=n) (rv:=.slice ra rn rc) (T:=184) H.o OK.o (g7.o trivial) (Q:=Q) (bs:=bs) (by
          have:=x8.o trivial;rw [<-HN.o,<-y0.o];exact this) (by rw [<-a5.o trivial];exact y7.o) y9.o y8.o g6.o g3.o HN.o (d7.o.only y6.o (fun g' h0=>by have:=z7.o g' h0;have:=HB.o;simp;omega)) z1.o (by have:=HB.o;omega) z7.o HB.o.1 HB.o.2.1 (by have:=HB.o;have:=h6.o;omega) (by have:=HB.o;have:=h6.o;omega)
        rw [<-a5.o trivial] at h4;obtain ⟨l6,g1,z0⟩:=h4;have a9:=aA z0;clear z0 x2 y7 y8 z1;go_wp2;exact hR.o _ _ a9.o
      have m1:k - 1<7:=by omega
      go_wp2;go_loopw [81] (fun iv wr=>∃ j:Nat,j<=k - 1/\iv=.int .i64 j/\dQ wr p' b' (vX Q1 (a0+1) (bs.drop 1) j)/\Only [b'] w5 wr) (fun iv _=>7 - (intOf iv).toNat)
      case atStart=>exact ⟨0,by omega,rfl,x9.o,Only.refl _ _⟩
      case round=>
       obtain ⟨j,hj,rfl,hp,ho⟩:=hrel;have y2:Row wr xb 184 [.int .i64 kd,.int .i64 cl,.int .i64 n,.slice ra rn rc,.slice (some ⟨g4,0,none⟩) k bc]:=ho.row kN.o (by have:=HB.o;simp;omega);have i9:=aA hp;have c7:=aA ho
       by_cases f4:j<k - 1
       ·have f3:=sN.o (1+j) (by omega) wr ho;have c0:=sN.o 0 (by omega) wr ho;rw [<-z6.o] at c0;have c9:wr.cell? ⟨xb,4,none⟩=_:=y2.cell 4 rfl;have a6:(j:Int)<((k - 1:Nat):Int):=by omega
        have m7:(0:Int)<=j:=by omega
        have d:=iT wr p' b' _ hp (a0+1+(j:Int)) (gI bs (1+j));have kM:Hid (True->vX Q1 (a0+1) (bs.drop 1) (j+1)=((vX Q1 (a0+1) (bs.drop 1) j).setCell (a0+1+(j:Int)) (gI bs (1+j))).2):=fun _=>by
         show ((vX Q1 (a0+1) (bs.drop 1) j).setCell (a0+1+(j:Int)) (gI (bs.drop 1) j)).2=_;congr 2;unfold gI;rw [List.getElem?_drop]
        generalize (vX Q1 (a0+1) (bs.drop 1) j).setCell (a0+1+(j:Int)) (gI bs (1+j))=r at d kM;obtain ⟨f1,f2⟩:=r;generalize gI bs (1+j)=y at f3 d;clear hp ho y2;go_wp2_with fail;go_fit d;rintro e w6 ⟨rfl,f7,y1⟩;have i7:Hid (dQ w6 p' b' (vX Q1 (a0+1) (bs.drop 1) (j+1))):=by
         show dQ _ _ _ _;rw [kM.o trivial];exact f7
        have i5:Hid (Only [b'] w5 w6):=c7.o.trans y1 (fun x hx=>.inl hx);clear f7 y1 d f3 c0 c9;go_wp2;exact ⟨⟨j+1,by omega,by go_num,i7.o,i5.o⟩,by simp [intOf];omega⟩
       have n0:¬ (j:Int)<((k - 1:Nat):Int):=by omega
       have y6:Hid (Only [xb,b'] w3 wr):=h8.o.trans ho (fun x hx=>.inl (by simp at hx;simp [hx]));have y7:Hid (dQ wr p' b' (fK Q hN bs)):=by
        show dQ _ _ _ (fK Q hN bs);have e:fK Q hN bs=vX Q1 (a0+1) (bs.drop 1) j:=by
         unfold fK;rw [x4.o,<-z6.o,<-HR.o,show k - 1=j by omega]
        rw [e];exact hp
       have y8:Hid (Row wr xb 184 [.int .i64 kd,.int .i64 cl,.int .i64 n,.slice ra rn rc,.slice (some ⟨g4,0,none⟩) k bc]):=y2;have z1:Hid (aN wr b3 (.slice (some ⟨g4,0,none⟩) k bc) bs):=vP.o.only ho (fun g' h0=>by have:=(vP.o.own g' h0).1;have:=HB.o;have:=h6.o;simp;omega);clear h8 x9 kN vP d8 sN hp ho y2 i9 c7;generalize b8:wr=w9 at*;clear b8;have y9:Hid (Only [] w0 w9):=y3.o.trans y6.o (fun x hx=>.inr (by have:=HB.o;have:=y3.o.size;simp at hx;rcases hx with rfl|rfl<;>omega))
       have x2:=(H.o.aK y9.o);have e0:=x2.cells.1;have j8:=x2.cells.2.1;have ef:=x2.cells.2.2 0;have h4:=aCp (w9:=w9) (o:=o) (kd:=kd) (cl:=cl) (n:=n) (rv:=.slice ra rn rc) (T:=184) H.o OK.o (g7.o trivial) (Q:=Q) (bs:=bs) (by
         have:=x8.o trivial;rw [<-HN.o,<-y0.o];exact this) (by rw [<-a5.o trivial];exact y7.o) y9.o y8.o g6.o g3.o HN.o (d7.o.only y6.o (fun g' h0=>by have:=z7.o g' h0;have:=HB.o;simp;omega)) z1.o (by have:=HB.o;omega) z7.o HB.o.1 HB.o.2.1 (by have:=HB.o;have:=h6.o;omega) (by have:=HB.o;have:=h6.o;omega)
       rw [<-a5.o trivial] at h4;obtain ⟨l6,g1,z0⟩:=h4;have a9:=aA z0;clear z0 x2 y7 y8 z1;go_wp2;exact hR.o _ _ a9.o
   have j9:¬ (7:Int)<n:=by omega
   have c5:Hid ([nG (1+n)]=aT n):=(yP h7).symm;have d4:=aA (sW (w1.alloc (.cells #[.int .i64 (nG (1+n))] 3)) X.pp X.pb M.P (H.o.aK (a7.o.trans x6.o (by simp))).pool);go_wp2_with fail;generalize (w1.alloc (.cells #[.int .i64 (nG (1+n))] 3))=w2 at*;have a8:Hid (xb<w1.heap.size):=g2;generalize f8:w1.heap.size=sg at*;have z8:=aA (show aN w2 sg (.slice (some ⟨sg,0,none⟩) 1 1) (aT n) by rw [<-c5.o];exact y5.o);have y4:Hid (Only [] w0 w2):=a7.o.trans x6.o (by simp);have d1:Hid (Row w2 xb 184 [.int .i64 kd,.int .i64 cl,.int .i64 n,.slice ra rn rc,.slice none 0 0]):=x6.o.row qR.o (by simp);have d5:Hid (Bls w2 w0.heap.size (.slice ra rn rc) o.kP):=g9.o.only x6.o (by simp);generalize Value.slice (some ⟨sg,0,none⟩) 1 1=v7 at*;clear y5 c5 f8 g0 d0 d2 j9 g9 qR;obtain ⟨g,sc,l5,j6,k5,l4⟩:∃ g sc,v7=.slice (some ⟨g,0,none⟩) (aT n).length sc/\sg<=g/\g<w2.heap.size/\(aT n).length<=sc:=by
    rcases z8.o.form with ⟨_,e⟩|⟨g,sc,e1,e2,e3,e4,_⟩
    ·have:=kC n;rw [e] at this;simp at this
    exact ⟨g,sc,e1,e2,e3,e4⟩
   subst l5;have l1:=kC n;have l3:=wU n j2;obtain ⟨sn,b7⟩:∃ z,z=(aT n).length:=⟨_,rfl⟩;rw [<-b7] at l1 l3 z8 l4 ⊢;have y0:=aA b7;clear b7;go_fit d4.o;rintro e w3 ⟨p',b',rfl,a2,z2,j7,j4⟩;have y3:Hid (Only [] w0 w3):=y4.o.trans z2 (by simp);have d3:Hid (Row w3 xb 184 [.int .i64 kd,.int .i64 cl,.int .i64 n,.slice ra rn rc,.slice none 0 0]):=z2.row d1.o (by simp);have d7:Hid (Bls w3 w0.heap.size (.slice ra rn rc) o.kP):=d5.o.only z2 (by simp);have j5:Hid (aN w3 sg (.slice (some ⟨g,0,none⟩) sn sc) (aT n)):=z8.o.only z2 (by simp);obtain ⟨_,_,_,_,e9,f0⟩:=a2.facts;have HB:Hid (xb<p'/\xb<b'/\g<b'/\xb<g/\p'<w3.heap.size/\b'<w3.heap.size/\p'≠b'/\w0.heap.size<=xb):=⟨by have:=a8.o;omega,by have:=a8.o;omega,by omega,by have:=a8.o;omega,e9,f0,a2.ne,HX.o⟩;have c8:=aA a2;clear d4 x6 a7 y4 d1 d5 z8 z2 j7 j4 e9 f0 a2 j6 k5;obtain ⟨b3,e5⟩:∃ z,z=w3.heap.size:=⟨_,rfl⟩;have h6:=aA e5;clear e5;go_wp2;go_loopw [51] (fun iv wr=>∃ (k:Nat) (bs:List Int) (Q:Pl) (bv:Value),k<=sn/\iv=.int .i64 k/\Hid (True->dH M.P (aT n) k=some (bs,Q))/\dQ wr p' b' Q/\aN wr b3 bv bs/\Row wr xb 184 [.int .i64 kd,.int .i64 cl,.int .i64 n,.slice ra rn rc,bv]/\Only [xb,b'] w3 wr) (fun iv _=>sn - (intOf iv).toNat)
   case atStart=>exact ⟨0,[],M.P,.slice none 0 0,by omega,rfl,fun _=>rfl,c8.o,aN.nil _ _,d3.o,Only.refl _ _⟩
   case round=>
    clear c8 d3;obtain ⟨k,bs,Q,bv,hk,rfl,x8,hp,b5,z4,ho⟩:=hrel;have b4:bs.length=k:=(eF OK.o.p (l:=aT n) (fun m hm=>dP _ hm) k (by have:=y0.o;omega) bs Q (x8.o trivial)).len;obtain ⟨ba,bc,e6⟩:=b5.len;rw [b4] at e6;subst e6;have x4:=aA b4;have HP:=aA hp;have x5:=aA b5;have oM:=aA z4;have HO:=aA ho;have c4:wr.cell? ⟨xb,4,none⟩=_:=z4.cell 4 rfl;clear hp b5 z4 ho b4
    by_cases f4:k<sn
    ·have a6:(k:Int)<sn:=by omega
     have n1:(0:Int)<=k:=by omega
     have e8:wr.cell? ⟨g,k,none⟩=some (.int .i64 (gI (aT n) k)):=by
      rcases (j5.o.only HO.o (fun g' h0=>by cases h0;have:=HB.o;simp;omega)).form with ⟨e,_⟩|⟨g',c',e1,_,_,_,h5⟩
      ·cases e
      cases e1;exact h5 k (by have:=y0.o;omega)
     have z9:=aEb wr p' b' Q HP.o (gI (aT n) k);obtain ⟨c,hc⟩:∃ z,z=gI (aT n) k:=⟨_,rfl⟩;rw [<-hc] at e8 z9;obtain ⟨r,hr⟩:∃ z,z=Q.alloc c:=⟨_,rfl⟩;rw [<-hr] at z9;have HR:=aA hr;have HC:=aA hc;obtain ⟨a1,e1,Q1⟩:=r;clear hr hc c4;go_wp2_with fail;go_fit z9;rintro e w5 ⟨rfl,z3,x3⟩;have x9:Hid (dQ w5 p' b' Q1):=z3;have h8:Hid (Only [xb,b'] w3 w5):=HO.o.trans x3 (fun x hx=>.inl (by simp at hx;simp [hx]));have kN:Hid (Row w5 xb 184 [.int .i64 kd,.int .i64 cl,.int .i64 n,.slice ra rn rc,.slice ba k bc]):=x3.row oM.o (by have:=HB.o;simp;omega);have vP:Hid (aN w5 b3 (.slice ba k bc) bs):=x5.o.only x3 (fun g' h0=>by have:=(x5.o.own g' h0).1;have:=HB.o;have:=h6.o;simp;omega);have c4:w5.cell? ⟨xb,4,none⟩=_:=kN.o.cell 4 rfl;clear z9 z3 x3 e8 oM x5 HO HP
     by_cases he:e1=0
     ·subst he;go_wp2_with (at_builtin;refine bH rfl _ _ rfl b3 _ _ rfl (vP.o.alloc _) w5.heap.size a1 rfl ?c1 ?c2 ?c3 ?c4)
      case c1=>exact (Row.new w5 _ [_]).cell 0 rfl
      case c2=>have:=x4.o;omega
      case c3=>have:=h8.o.size;have:=h6.o;simp;omega
      case c4=>
       intro v' w6 a4 y1 k2;obtain ⟨h9,x1,f9⟩:=a4.len;obtain ⟨nb,f5⟩:∃ z,z=(bs ++ [a1]).length:=⟨_,rfl⟩;rw [<-f5] at f9;subst f9;clear f5 k2;have x7:∀ x∈(Value.slice ba k bc).ownBlock.toList,b3<=x:=fun x hx=>(vP.o.own x (by simpa using hx)).1;have b9:∀ x∈(Value.slice ba k bc).ownBlock.toList,x<w5.heap.size:=fun x hx=>(vP.o.own x (by simpa using hx)).2;have hB:=HB.o;have k1:=h6.o;have a3:=y1.row (kN.o.alloc (.cells #[.int .i64 a1] 3)) (fun hx=>by have:=x7 _ hx;omega);have f6:=a3.free 4;have c6:w6.cell? ⟨xb,4,none⟩=_:=a3.cell 4 rfl;have i8:Hid (dQ (w6.setCell ⟨xb,4,none⟩ (.slice h9 nb x1)) p' b' Q1):=
        (((x9.o.only ((Only.refl [] w5).alloc (.cells #[.int .i64 a1] 3)) (by simp) (by simp)).only y1 (fun hx=>by have:=x7 _ hx;omega) (fun hx=>by have:=x7 _ hx;omega)).only ((Only.refl [xb] w6).set (p:=⟨xb,4,none⟩) (.inl (by simp)) (.slice h9 nb x1)) (by simp;omega) (by simp;omega))
       have j0:Hid (aN (w6.setCell ⟨xb,4,none⟩ (.slice h9 nb x1)) b3 (.slice h9 nb x1) (bs ++ [a1])):=a4.only ((Only.refl [xb] w6).set (p:=⟨xb,4,none⟩) (.inl (by simp)) (.slice h9 nb x1)) (fun g' h0=>by have:=(a4.own g' h0).1;simp;omega);have j1:Hid (Row (w6.setCell ⟨xb,4,none⟩ (.slice h9 nb x1)) xb 184 [.int .i64 kd,.int .i64 cl,.int .i64 n,.slice ra rn rc,(.slice h9 nb x1)]):=a3.set 4 (.slice h9 nb x1);have i6:Hid (Only [xb,b'] w3 (w6.setCell ⟨xb,4,none⟩ (.slice h9 nb x1))):=((h8.o.alloc _).trans y1 (fun x hx=>.inr (by have:=x7 _ hx;omega))).set (.inl (by simp)) _;have j3:Hid (True->dH M.P (aT n) (k+1)=some (bs ++ [a1],Q1)):=fun _=>by
        rw [jA (x8.o trivial),<-HC.o,<-HR.o];rfl
       clear a4 y1 x7 b9 hB k1 a3 x9 h8 kN vP c4 x8;go_wp2;exact ⟨⟨k+1,bs ++ [a1],Q1,(.slice h9 nb x1),by omega,by go_num,j3,i8.o,j0.o,j1.o,i6.o⟩,by simp [intOf];omega⟩
     have d6:Hid (True->M.add o=(0,14,M)):=fun _=>aCo (k:=k+1) (by rw [<-HN.o,<-y0.o];omega) (by
      rw [<-HN.o,jA (x8.o trivial),<-HC.o,<-HR.o];show (if e1=0 then _ else _)=_;rw [if_neg he])
     go_wp2;refine hR.o _ _ ?_;rw [d6.o trivial];exact wJ.none0 H.o (y3.o.trans h8.o (fun x hx=>.inr (by have:=HB.o;have:=y3.o.size;simp at hx;rcases hx with rfl|rfl<;>omega)))
    obtain rfl:k=sn:=by omega
    obtain ⟨g4,k3,e7,m8⟩:∃ g4,ba=some ⟨g4,0,none⟩/\b3<=g4/\k<=bc:=by
     rcases x5.o.form with ⟨e,e2⟩|⟨g4,c',e1,e2,_,e4,_⟩
     ·rw [e2] at x4;have:=x4.o;simp at this;omega
     cases e1;rw [x4.o] at e4;exact ⟨g4,rfl,e2,e4⟩
    subst k3;have i4:=aA e7;have z5:Hid (∀ i,i<k->∀ wx F,Only F wr wx->g4∉F->wx.cell? ⟨g4,i,none⟩=some (.int .i64 (gI bs i))):=fun i hi wx F hox hgf=>by
     rcases x5.o.form with ⟨e,_⟩|⟨g',c',e1,_,_,_,h5⟩
     ·cases e
     cases e1;exact hox.cell (h5 i (by rw [x4.o];exact hi)) hgf
    have b0:=z5.o 0 (by omega) wr [] (Only.refl _ _) (by simp);have d:=iT wr p' b' Q HP.o (gI bs 0) hN;obtain ⟨a0,b1⟩:∃ z,z=gI bs 0:=⟨_,rfl⟩;rw [<-b1] at b0 d;have z6:=aA b1;obtain ⟨r,hr⟩:∃ z,z=Q.setCell a0 hN:=⟨_,rfl⟩;rw [<-hr] at d;have HR:=aA hr;obtain ⟨e1,Q1⟩:=r;clear hr b1 e7;go_wp2_with fail;go_fit d;rintro e w5 ⟨rfl,z3,x3⟩;have x9:Hid (dQ w5 p' b' Q1):=z3;have h8:Hid (Only [xb,b'] w3 w5):=HO.o.trans x3 (fun x hx=>.inl (by simp at hx;simp [hx]));have kN:Hid (Row w5 xb 184 [.int .i64 kd,.int .i64 cl,.int .i64 n,.slice ra rn rc,.slice (some ⟨g4,0,none⟩) k bc]):=x3.row oM.o (by have:=HB.o;simp;omega);have vP:Hid (aN w5 b3 (.slice (some ⟨g4,0,none⟩) k bc) bs):=x5.o.only x3 (fun g' h0=>by have:=(x5.o.own g' h0).1;have:=HB.o;have:=h6.o;simp;omega);have d8:w5.cell? ⟨xb,4,none⟩=_:=kN.o.cell 4 rfl;have m6:0<=a0/\a0<=384:=by
     have s:=eF OK.o.p (l:=aT n) (fun m hm=>dP _ hm) k (by have:=y0.o;omega) bs Q (x8.o trivial);have h1:=(s.new 0 (by omega)).range (dP _ (by have:=y0.o;omega));have h2:=s.n;have h3:=OK.o.n24;rw [<-z6.o] at h1;omega
    have sN:Hid (∀ i,i<k->∀ wx,Only [b'] w5 wx->wx.cell? ⟨g4,i,none⟩=some (.int .i64 (gI bs i))):=fun i hi wx hox=>by
     rcases vP.o.form with ⟨e,_⟩|⟨g',c',e1,_,_,_,h5⟩
     ·cases e
     cases e1;exact hox.cell (h5 i (by rw [x4.o];exact hi)) (by have:=i4.o;have:=HB.o;have:=h6.o;simp;omega)
    clear d z3 x3 oM x5 HO HP c4 b0 z5
    by_cases d9:bc=1
    ·subst d9;obtain rfl:k=1:=by omega
     go_wp2;go_loopw [81] (fun iv wr=>iv=.int .i64 0/\w5=wr) (fun _ _=>0)
     case atStart=>exact ⟨rfl,rfl⟩
     case round=>
      obtain ⟨rfl,rfl⟩:=hrel;have y6:Hid (Only [xb,b'] w3 w5):=h8;have y7:Hid (dQ w5 p' b' (fK Q hN bs)):=by
       show dQ _ _ _ (fK Q hN bs);have e:fK Q hN bs=Q1:=by
        unfold fK;rw [x4.o,<-z6.o,<-HR.o];rfl
       rw [e];exact x9.o
      have y8:=kN;have z1:=vP;clear h8 x9 kN vP d8 sN;generalize b8:w5=w9 at*;clear b8;have y9:Hid (Only [] w0 w9):=y3.o.trans y6.o (fun x hx=>.inr (by have:=HB.o;have:=y3.o.size;simp at hx;rcases hx with rfl|rfl<;>omega))
      have x2:=(H.o.aK y9.o);have e0:=x2.cells.1;have j8:=x2.cells.2.1;have ef:=x2.cells.2.2 0;have h4:=aCp (w9:=w9) (o:=o) (kd:=kd) (cl:=cl) (n:=n) (rv:=.slice ra rn rc) (T:=184) H.o OK.o (g7.o trivial) (Q:=Q) (bs:=bs) (by
        have:=x8.o trivial;rw [<-HN.o,<-y0.o];exact this) (by rw [<-a5.o trivial];exact y7.o) y9.o y8.o g6.o g3.o HN.o (d7.o.only y6.o (fun g' h0=>by have:=z7.o g' h0;have:=HB.o;simp;omega)) z1.o (by have:=HB.o;omega) z7.o HB.o.1 HB.o.2.1 (by have:=HB.o;have:=h6.o;omega) (by have:=HB.o;have:=h6.o;omega)
      rw [<-a5.o trivial] at h4;obtain ⟨l6,g1,z0⟩:=h4;have a9:=aA z0;clear z0 x2 y7 y8 z1;go_wp2;exact hR.o _ _ a9.o
    have m1:k - 1<7:=by omega
    go_wp2;go_loopw [81] (fun iv wr=>∃ j:Nat,j<=k - 1/\iv=.int .i64 j/\dQ wr p' b' (vX Q1 (a0+1) (bs.drop 1) j)/\Only [b'] w5 wr) (fun iv _=>7 - (intOf iv).toNat)
    case atStart=>exact ⟨0,by omega,rfl,x9.o,Only.refl _ _⟩
    case round=>
     obtain ⟨j,hj,rfl,hp,ho⟩:=hrel;have y2:Row wr xb 184 [.int .i64 kd,.int .i64 cl,.int .i64 n,.slice ra rn rc,.slice (some ⟨g4,0,none⟩) k bc]:=ho.row kN.o (by have:=HB.o;simp;omega);have i9:=aA hp;have c7:=aA ho
     by_cases f4:j<k - 1
     ·have f3:=sN.o (1+j) (by omega) wr ho;have c0:=sN.o 0 (by omega) wr ho;rw [<-z6.o] at c0;have c9:wr.cell? ⟨xb,4,none⟩=_:=y2.cell 4 rfl;have a6:(j:Int)<((k - 1:Nat):Int):=by omega
      have m7:(0:Int)<=j:=by omega
      have d:=iT wr p' b' _ hp (a0+1+(j:Int)) (gI bs (1+j));have kM:Hid (True->vX Q1 (a0+1) (bs.drop 1) (j+1)=((vX Q1 (a0+1) (bs.drop 1) j).setCell (a0+1+(j:Int)) (gI bs (1+j))).2):=fun _=>by
       show ((vX Q1 (a0+1) (bs.drop 1) j).setCell (a0+1+(j:Int)) (gI (bs.drop 1) j)).2=_;congr 2;unfold gI;rw [List.getElem?_drop]
      generalize (vX Q1 (a0+1) (bs.drop 1) j).setCell (a0+1+(j:Int)) (gI bs (1+j))=r at d kM;obtain ⟨f1,f2⟩:=r;generalize gI bs (1+j)=y at f3 d;clear hp ho y2;go_wp2_with fail;go_fit d;rintro e w6 ⟨rfl,f7,y1⟩;have i7:Hid (dQ w6 p' b' (vX Q1 (a0+1) (bs.drop 1) (j+1))):=by
       show dQ _ _ _ _;rw [kM.o trivial];exact f7
      have i5:Hid (Only [b'] w5 w6):=c7.o.trans y1 (fun x hx=>.inl hx);clear f7 y1 d f3 c0 c9;go_wp2;exact ⟨⟨j+1,by omega,by go_num,i7.o,i5.o⟩,by simp [intOf];omega⟩
     have n0:¬ (j:Int)<((k - 1:Nat):Int):=by omega
     have y6:Hid (Only [xb,b'] w3 wr):=h8.o.trans ho (fun x hx=>.inl (by simp at hx;simp [hx]));have y7:Hid (dQ wr p' b' (fK Q hN bs)):=by
      show dQ _ _ _ (fK Q hN bs);have e:fK Q hN bs=vX Q1 (a0+1) (bs.drop 1) j:=by
       unfold fK;rw [x4.o,<-z6.o,<-HR.o,show k - 1=j by omega]
      rw [e];exact hp
     have y8:Hid (Row wr xb 184 [.int .i64 kd,.int .i64 cl,.int .i64 n,.slice ra rn rc,.slice (some ⟨g4,0,none⟩) k bc]):=y2;have z1:Hid (aN wr b3 (.slice (some ⟨g4,0,none⟩) k bc) bs):=vP.o.only ho (fun g' h0=>by have:=(vP.o.own g' h0).1;have:=HB.o;have:=h6.o;simp;omega);clear h8 x9 kN vP d8 sN hp ho y2 i9 c7;generalize b8:wr=w9 at*;clear b8;have y9:Hid (Only [] w0 w9):=y3.o.trans y6.o (fun x hx=>.inr (by have:=HB.o;have:=y3.o.size;simp at hx;rcases hx with rfl|rfl<;>omega))
     have x2:=(H.o.aK y9.o);have e0:=x2.cells.1;have j8:=x2.cells.2.1;have ef:=x2.cells.2.2 0;have h4:=aCp (w9:=w9) (o:=o) (kd:=kd) (cl:=cl) (n:=n) (rv:=.slice ra rn rc) (T:=184) H.o OK.o (g7.o trivial) (Q:=Q) (bs:=bs) (by
       have:=x8.o trivial;rw [<-HN.o,<-y0.o];exact this) (by rw [<-a5.o trivial];exact y7.o) y9.o y8.o g6.o g3.o HN.o (d7.o.only y6.o (fun g' h0=>by have:=z7.o g' h0;have:=HB.o;simp;omega)) z1.o (by have:=HB.o;omega) z7.o HB.o.1 HB.o.2.1 (by have:=HB.o;have:=h6.o;omega) (by have:=HB.o;have:=h6.o;omega)
     rw [<-a5.o trivial] at h4;obtain ⟨l6,g1,z0⟩:=h4;have a9:=aA z0;clear z0 x2 y7 y8 z1;go_wp2;exact hR.o _ _ a9.o
end
