/- Lemmas of this claim. -/
import Derived.Test.YthflghdaejbdkaaGreatXcBlock
import Derived.Test.YthflghdaejbdkaaGreatXcBModel
namespace Go.Proofs.YthflghdaejbdkaaGreat
open Go.RowKit
set_option maxHeartbeats 6400000
set_option maxRecDepth 100000
set_option linter.unusedVariables false
theorem dP.sF {w w':World} {p b:Nat} {P:Pl} (h:dP w p b P) (k:lN w w'):dP w' p b P:=h.only (k.only []) (by simp) (by simp)
def aBx (P:Pl):Value:=match P.pair with|none=>.tuple #[.int .i64 0,.int .i64 0,.bool false]|some (i,j)=>.tuple #[.int .i64 (i:Int),.int .i64 (j:Int),.bool true]
theorem aFD (w:World) (p b:Nat) (P:Pl) (h:dP w p b P) :
  Calls Tryz.prog 207 #[.pointer (some ⟨p,0,none⟩)] w fun e w'=>e=.returned (aBx P)/\∃ n,w'=w.drewN n:=by
 refine aF fun R hR=>?_;have y4:=h.n24;obtain ⟨cap,z0,zf,h9,_⟩:=h.facts;have H:=aA h;clear h;go_in;go_wp2;go_loopw [8] (fun s8 wr=>∃ c:Nat,c<=3/\s8=.int .i64 c/\Hid (∀ d:Nat,d<c->P.eF d=none)/\lN w wr) (fun s8 _=>3 - (intOf s8).toNat)
 case atStart=>exact ⟨0,by omega,rfl,fun d hd=>by omega,lN.refl _⟩
 case round=>
  obtain ⟨c,y5,rfl,h5,x2⟩:=hrel;obtain ⟨wo,rfl⟩:∃ wo:World,wo=wr:=⟨_,rfl⟩;have x8:=aA (H.out.sF x2)
  by_cases y6:c<3
  ·obtain ⟨y3,z0,zf,h9,_⟩:=x8.out.facts;have hC:IsC (c:Int):=by unfold IsC;omega
   go_wp2;go_loopw [2,16] (fun s2 x5 wr=>∃ (i:Nat) (fr:Option Nat),i<=P.n/\x5=.int .i64 i/\Hid (P.frm c i=fr)/\IsO s2 fr/\lN w wr) (fun _ x5 _=>P.n - (intOf x5).toNat)
   case atStart=>exact ⟨0,none,by omega,rfl,rfl,rfl,x2⟩
   case round=>
    clear z0 zf h9 x2 x8;obtain ⟨i,fr,hi,rfl,h2,ho,h4⟩:=hrel;have h0:=aA (H.out.sF h4);obtain ⟨y0,z0,zf,h9,_⟩:=h0.out.facts
    by_cases x4:i<P.n
    ·have y:=fun n=>xY (wr.drewN n) b (i*25) (P.pg i) ((h0.out.pg i x4).drewN n) c hC;have h7:=fun n=>oU (wr.drewN n) b (i*25) (P.pg i) ((h0.out.pg i x4).drewN n)
     cases hp:(P.pg i).partly c with
     | false=>
      rw [hp] at y;have hN:=aA (aFY h2.out hp);clear hp;go_wp2_with fail;go_quiet (first|(go_at_call 238;with_reducible exact aT (y _)))
      go_wp2;exact ⟨⟨i+1,fr,by omega,by go_num,hN,ho,h4.more _⟩,by simp [intOf];omega⟩
     | true=>
      rw [hp] at y;have HP:=aA hp;clear hp
      cases fr with
      | none=>
       obtain rfl:_=Value.int .i64 (-1):=ho;have hN:=aA (aDE h2.out HP.out);go_wp2_with fail;go_quiet (first|(go_at_call 238;with_reducible exact aT (y _)))
       go_wp2;exact ⟨⟨i+1,some i,by omega,by go_num,hN,rfl,h4.more _⟩,by simp [intOf];omega⟩
      | some f=>
       obtain rfl:_=Value.int .i64 (f:Int):=ho;have hf:=(Pl.aBO h2.out).1;have h8:=fun n=>oU (wr.drewN n) b (f*25) (P.pg f) ((h0.out.pg f (by omega)).drewN n);have y2:decide ((f:Int)<0)=false:=by simp
       have c8:=(P.pg i).count_le;have d8:=(P.pg f).count_le
       by_cases h3:(P.pg i).count<=(P.pg f).count
       ·have hN:=aA (aGa h2.out HP.out h3);go_wp2_with fail;go_quiet (first|(go_at_call 238;with_reducible exact aT (y _))|(go_at_call 239;first|(with_reducible exact aT (h7 _))|(with_reducible exact aT (h8 _))))
        go_wp2;exact ⟨⟨i+1,some i,by omega,by go_num,hN,rfl,h4.more _⟩,by simp [intOf];omega⟩
       have hN:=aA (aFZ h2.out h3);have y1:decide ((P.pg i).count<=(P.pg f).count)=false:=by simpa using h3
       clear h3;go_wp2_with fail;go_quiet (first|(go_at_call 238;with_reducible exact aT (y _))|(go_at_call 239;first|(with_reducible exact aT (h7 _))|(with_reducible exact aT (h8 _))))
       go_wp2;exact ⟨⟨i+1,some f,by omega,by go_num,hN,rfl,h4.more _⟩,by simp [intOf];omega⟩
    obtain rfl:i=P.n:=by omega
    obtain ⟨wp,rfl⟩:∃ wp:World,wp=wr:=⟨_,rfl⟩;go_wp2;go_loopw [3,55] (fun s3 x6 wr=>∃ (j:Nat) (to:Option Nat),j<=P.n/\x6=.int .i64 j/\Hid (P.too c fr j=to)/\IsO s3 to/\lN w wr) (fun _ x6 _=>P.n - (intOf x6).toNat)
    case atStart=>exact ⟨0,none,by omega,rfl,rfl,rfl,h4⟩
    case round=>
     clear z0 zf h9 h0 h4;obtain ⟨j,to,hj,rfl,z,h6,h1⟩:=hrel;have h0:=aA (H.out.sF h1);obtain ⟨y0,z0,zf,h9,_⟩:=h0.out.facts
     by_cases x1:j<P.n
     ·have y:=fun n=>xY (wr.drewN n) b (j*25) (P.pg j) ((h0.out.pg j x1).drewN n) c hC;have h7:=fun n=>oU (wr.drewN n) b (j*25) (P.pg j) ((h0.out.pg j x1).drewN n)
      cases fr with
      | none=>
       obtain rfl:_=Value.int .i64 (-1):=ho;have hp:=Pl.wQ h2.out j x1;have hN:=aA (wF z.out hp);have hb:((j:Int) != -1)=true:=by rw [bne_iff_ne];omega
       rw [hp] at y;clear hp;go_wp2_with fail;go_quiet (first|(go_at_call 238;with_reducible exact aT (y _)))
       go_wp2;exact ⟨⟨j+1,to,by omega,by go_num,hN,h6,h1.more _⟩,by simp [intOf];omega⟩
      | some f=>
       obtain rfl:_=Value.int .i64 (f:Int):=ho
       by_cases x3:j=f
       ·have hN:=aA (aFm z.out (by rw [x3]));have hb:((j:Int) != (f:Int))=false:=by rw [bne_eq_false_iff_eq];omega
        clear x3;go_wp2_with fail;go_quiet (fail);go_wp2;exact ⟨⟨j+1,to,by omega,by go_num,hN,h6,h1.more _⟩,by simp [intOf];omega⟩
       have x9:some j≠some f:=by simpa using x3
       have x7:=aA x9;have hb:((j:Int) != (f:Int))=true:=by rw [bne_iff_ne];omega
       clear x3 x9
       cases hp:(P.pg j).partly c with
       | false=>
        rw [hp] at y;have hN:=aA (wF z.out hp);clear hp;go_wp2_with fail;go_quiet (first|(go_at_call 238;with_reducible exact aT (y _)))
        go_wp2;exact ⟨⟨j+1,to,by omega,by go_num,hN,h6,h1.more _⟩,by simp [intOf];omega⟩
       | true=>
        rw [hp] at y;have HP:=aA hp;clear hp
        cases to with
        | none=>
         obtain rfl:_=Value.int .i64 (-1):=h6;have hN:=aA (aCk z.out x7.out HP.out);go_wp2_with fail;go_quiet (first|(go_at_call 238;with_reducible exact aT (y _)))
         go_wp2;exact ⟨⟨j+1,some j,by omega,by go_num,hN,rfl,h1.more _⟩,by simp [intOf];omega⟩
        | some t=>
         obtain rfl:_=Value.int .i64 (t:Int):=h6;have ht:=(Pl.nZ z.out).1;have h8:=fun n=>oU (wr.drewN n) b (t*25) (P.pg t) ((h0.out.pg t (by omega)).drewN n);have y2:decide ((t:Int)<0)=false:=by simp
         have c8:=(P.pg j).count_le;have d8:=(P.pg t).count_le
         by_cases h3:(P.pg t).count<(P.pg j).count
         ·have hN:=aA (aFo z.out x7.out HP.out h3);go_wp2_with fail;go_quiet (first|(go_at_call 238;with_reducible exact aT (y _))|(go_at_call 239;first|(with_reducible exact aT (h7 _))|(with_reducible exact aT (h8 _))))
          go_wp2;exact ⟨⟨j+1,some j,by omega,by go_num,hN,rfl,h1.more _⟩,by simp [intOf];omega⟩
         have hN:=aA (aFp z.out h3);have y1:decide ((P.pg t).count<(P.pg j).count)=false:=by simpa using h3
         clear h3;go_wp2_with fail;go_quiet (first|(go_at_call 238;with_reducible exact aT (y _))|(go_at_call 239;first|(with_reducible exact aT (h7 _))|(with_reducible exact aT (h8 _))))
         go_wp2;exact ⟨⟨j+1,some t,by omega,by go_num,hN,rfl,h1.more _⟩,by simp [intOf];omega⟩
     obtain rfl:j=P.n:=by omega
     cases to with
     | none=>
      obtain rfl:_=Value.int .i64 (-1):=h6;have hN:Hid (∀ d:Nat,d<c+1->P.eF d=none):=by
       intro d hd
       by_cases e:d=c
       ·subst e;unfold Pl.eF;rw [h2.out,z.out]
        cases fr<;>rfl
       exact h5.out d (by omega)
      go_wp2;exact ⟨⟨c+1,by omega,by go_num,hN,h1⟩,by simp [intOf];omega⟩
     | some t=>
      obtain rfl:_=Value.int .i64 (t:Int):=h6
      cases fr with
      | none=>exact absurd (Pl.nZ z.out).2.2 (by rw [Pl.wQ h2.out t (Pl.nZ z.out).1];simp)
      | some f=>
       obtain rfl:_=Value.int .i64 (f:Int):=ho;have hN:Hid (aBx P=.tuple #[.int .i64 (f:Int),.int .i64 (t:Int),.bool true]):=by
        have e1:P.eF c=some (f,t):=by unfold Pl.eF;rw [h2.out,z.out]
        have e2:P.pair=some (f,t):=by
         unfold Pl.pair;obtain rfl|rfl|rfl:c=0\/c=1\/c=2:=by omega
         ·rw [show P.eF 0=some (f,t) from e1];rfl
         ·rw [show P.eF 0=none from h5.out 0 (by omega),show P.eF 1=some (f,t) from e1];rfl
         rw [show P.eF 0=none from h5.out 0 (by omega),show P.eF 1=none from h5.out 1 (by omega),show P.eF 2=some (f,t) from e1];rfl
        show _=_;unfold aBx;rw [e2]
       go_wp2_with fail;go_ret3;exact hR.out _ _ ⟨by rw [hN.out];rfl,h1.ex⟩
  obtain rfl:c=3:=by omega
  have hN:Hid (aBx P=.tuple #[.int .i64 0,.int .i64 0,.bool false]):=by
   show _=_;unfold aBx Pl.pair;rw [show P.eF 0=none from h5.out 0 (by omega),show P.eF 1=none from h5.out 1 (by omega),show P.eF 2=none from h5.out 2 (by omega)];rfl
  go_wp2_with fail;go_ret3;exact hR.out _ _ ⟨by rw [hN.out];rfl,x2.ex⟩
set_option maxHeartbeats 1600000
theorem bZ.keep {b o y:Nat} {w w':World} {q:Pg} (h:bZ b o w w') (e:y+25<=o\/o+25<=y) (z:gK w b y q):gK w' b y q:=by
 intro r d;rw [h.cell _ (by omega)];exact z r d
theorem fC (w:World) (p b:Nat) (P:Pl) (h:dP w p b P) (d:P.pair=none) :
  Calls Tryz.prog 137 #[.pointer (some ⟨p,0,none⟩)] w fun e w'=>e=.returned (.tuple #[.int .i64 0,.int .i64 0,.int .i64 3])/\lN w w':=by
 refine aF fun R z=>?_;have y:=aFD w p b P h;rw [show aBx P=.tuple #[.int .i64 0,.int .i64 0,.bool false] by unfold aBx;rw [d]] at y;go_in;go_wp2_with fail;refine (iY _ _ _ _ h).mono ?_;rintro e _ ⟨rfl,rfl⟩;go_wp2_with fail;refine y.mono ?_;rintro e _ ⟨rfl,n1,rfl⟩;go_wp2_with fail;go_ret3;exact z.out _ _ ⟨rfl,lN.of _ _⟩
set_option maxHeartbeats 6400000 in
theorem fB (w:World) (p b:Nat) (P:Pl) (h:dP w p b P) (i j:Nat) (hp:P.pair=some (i,j)) :
  Calls Tryz.prog 137 #[.pointer (some ⟨p,0,none⟩)] w fun e w'=>
   e=.returned (.tuple #[.int .i64 ((16*i+(P.pg i).top (P.pg i).cls*bsz (P.pg i).cls:Nat):Int),.int .i64 ((16*j+(P.pg j).gap (P.pg j).cls*bsz (P.pg i).cls:Nat):Int),.int .i64 0])/\dP w' p b (P.moved i j)/\Only [b] w w':=by
 refine aF fun R hR=>?_;have y9:=fun wx hx=>aFD wx p b P hx;rw [show aBx P=.tuple #[.int .i64 (i:Int),.int .i64 (j:Int),.bool true] by unfold aBx;rw [hp]] at y9;have hP:=Pl.jG hp;have h2:Hid (P.moved i j=(P.set j ((P.pg j).take (P.pg i).cls ((P.pg j).gap (P.pg j).cls) fun x=>(P.pg i).cell ((P.pg i).top (P.pg i).cls*bsz (P.pg i).cls+x))).set i ((P.pg i).release ((P.pg i).top (P.pg i).cls))):=rfl;have h0:=aA (h.ok.moved hP).1;rw [h2.out] at h0;have hC:=hP.c;have h4:(P.pg i).cls≠-1:=by rcases hC with e|e|e<;>omega
 have h1:=(h.ok i hP.hi).top h4;have mM:=(h.ok j hP.hj).gap hC hP.pj;have y:=hP.same;rw [y] at h2 hR h0;have hi:=hP.hi;have hj:=hP.hj;have y8:=hP.ne;have c0:=h.n24;have a1:=h.ok i hi;have a0:=h.ok j hj;have b6:=h.ne;obtain ⟨c,hc⟩:∃ c,c=(P.pg i).cls:=⟨_,rfl⟩;rw [<-hc] at hC h1 mM h2 y hR h0;have a9:=hC.sz;have h8:=hC.blk h1.1;have h9:=hC.blk mM.1;have h6:=aA (h.ok.set (a0.take hC (.inr y) mM.1 (fun x=>(P.pg i).cell ((P.pg i).top c*bsz c+x))) (i:=j));have z6:=aA (a1.release h4 ((P.pg i).top c));have y7:∀ wx,gK wx b (i*25) (P.pg i)->Calls Tryz.prog 209 #[.pointer (some ⟨b,i*25,none⟩),.bool true] wx fun e w'=>e=.returned (.int .i64 ((P.pg i).top c))/\lN wx w':=fun wx hx=>by
  have:=aKH wx b (i*25) (P.pg i) hx (by rw [<-hc];exact hC) (by rw [<-hc];exact h1.1);rw [<-hc] at this;exact this
 have y6:∀ wx,gK wx b (j*25) (P.pg j)->Calls Tryz.prog 209 #[.pointer (some ⟨b,j*25,none⟩),.bool false] wx fun e w'=>e=.returned (.int .i64 ((P.pg j).gap c))/\lN wx w':=fun wx hx=>by
  have:=zL wx b (j*25) (P.pg j) hx (by rw [y];exact hC) (by rw [y];exact mM.1);rw [y] at this;exact this
 have h7:∀ wx,Calls Tryz.prog 208 #[.int .i64 c] wx (aO wx (.int .i64 (bsz c:Int))):=fun wx=>sW wx c hC;have a4:Hid ((P.pg i).cls=c):=hc.symm;obtain ⟨k,hk⟩:∃ k,k=(P.pg i).top c:=⟨_,rfl⟩;obtain ⟨l,hl⟩:∃ l,l=(P.pg j).gap c:=⟨_,rfl⟩;obtain ⟨z,hz⟩:∃ z,z=bsz c:=⟨_,rfl⟩;simp only [<-hk,<-hl,<-hz] at h2 hR h0 h6 z6 y7 y6 h7 h8 h9 a9 h1 mM;obtain ⟨mk,x7⟩:∃ mk,mk=k*z:=⟨_,rfl⟩;obtain ⟨d,x1⟩:∃ d,d=l*z:=⟨_,rfl⟩;simp only [<-x7,<-x1] at h2 hR h0 h6 h8 h9;have a6:(k:Int)*(z:Int)=(mk:Int):=by rw [x7];simp
 have d4:((k:Int)+1)*(z:Int)=(mk:Int)+(z:Int):=by rw [Int.add_mul,Int.one_mul,a6]
 have a7:(l:Int)*(z:Int)=(d:Int):=by rw [x1];simp
 have d5:((l:Int)+1)*(z:Int)=(d:Int)+(z:Int):=by rw [Int.add_mul,Int.one_mul,a7]
 have b3:mk+z<=16:=h8.1;have y1:d+z<=16:=h9.1;have e8:z<=8:=by omega
 have e7:0<z:=by omega
 have a8:k<8:=by omega
 have x6:l<8:=by omega
 have b8:¬ 16=mk:=by omega
 have b7:¬ 16=d:=by omega
 have c6:(mk:Int)+(z:Int)<=16:=by omega
 have c7:(0:Int)<=mk:=by omega
 have c8:(mk:Int)<=(mk:Int)+(z:Int):=by omega
 have c9:(0:Int)<=(mk:Int)+(z:Int):=by omega
 have d0:(d:Int)+(z:Int)<=16:=by omega
 have d1:(0:Int)<=d:=by omega
 have d2:(d:Int)<=(d:Int)+(z:Int):=by omega
 have d3:(0:Int)<=(d:Int)+(z:Int):=by omega
 have d9:IntKind.i64.wrap (mk:Int)=mk:=IntWalk.i64_in _ (by omega);have e0:IntKind.i64.wrap ((mk:Int)+(z:Int))=(mk:Int)+(z:Int):=IntWalk.i64_in _ (by omega);have e4:IntKind.i64.wrap ((k:Int)+1)=(k:Int)+1:=IntWalk.i64_in _ (by omega);have d6:IntKind.i64.wrap (d:Int)=d:=IntWalk.i64_in _ (by omega);have d7:IntKind.i64.wrap ((d:Int)+(z:Int))=(d:Int)+(z:Int):=IntWalk.i64_in _ (by omega);have d8:IntKind.i64.wrap ((l:Int)+1)=(l:Int)+1:=IntWalk.i64_in _ (by omega);have H:=aA h;have b4:=aA h1;have b5:=aA mM;have z7:=aA y;have z3:=aA y8;have HZ:=aA hz;have z4:=aA x1;clear hc hk hl hz x7 x1 h hp hP h8 h9 h1 mM y y8 h4;go_in;go_wp2_with fail;refine (iY _ _ _ _ H.out).mono ?_;rintro e _ ⟨rfl,rfl⟩;go_wp2_with fail;refine (y9 _ H.out).mono ?_;rintro e w1 ⟨rfl,h3⟩;have h3:lN w w1:=h3;have H1:=aA (H.out.sF h3);obtain ⟨b1,z0,zf,x2,_⟩:=H1.out.facts;have y2:=(H1.out.pg i hi).cls;rw [a4.out] at y2;go_wp2_with fail;go_quiet (fail);go_wp2_with fail;refine (h7 _).mono ?_;rintro e _ ⟨rfl,rfl⟩;go_wp2_with fail;refine (y7 _ ((H1.out.pg i hi).drewN _)).mono ?_;rintro e w2 ⟨rfl,y3⟩;have x5:=(lN.of w1 _).trans y3;go_wp2_with fail;refine (y6 _ ((H1.out.sF x5).pg j hj)).mono ?_;rintro e w3 ⟨rfl,y4⟩;have y5:=(h3.trans x5).trans y4;have H3:=aA (H.out.sF y5);clear h3 y3 x5 y4 H1 z0 zf x2 y2;obtain ⟨b2,z0,zf,x2,_⟩:=H3.out.facts;go_wp2_with fail;go_still_tail 22,(by kernel_rfl);have a2:((mk:Int)+(z:Int)).toNat - mk=z:=by omega
 have a3:((d:Int)+(z:Int)).toNat - d=z:=by omega
 rw [a2,a3];change wpList _ _ _ _ _ w3.drew;have x3:=H3.out.pg i hi;have x4:=H3.out.pg j hj;refine sU rfl (.tmp 54) (.tmp 65) 23 23 3 rfl Tryz.underlying23 (by kernel_rfl) b (j*25+9+d) z (16 - d) rfl b (i*25+9+mk) (16 - mk) rfl ((List.range z).map fun x=>Value.int .i64 ((P.pg i).cell (mk+x))) (by simp) ?c1 ?c2 ?c3 ?c4 ?c5
 case c1=>
  intro x v hv;obtain ⟨hx,rfl⟩:=kQ hv;have:=x3.cell (k:=mk+x) (by omega);rw [<-Nat.add_assoc] at this;exact this
 case c2=>
  intro x hx;have:=x4.cell (k:=d+x) (by omega);rw [<-Nat.add_assoc] at this;show (w3.cell? _).isSome=true;rw [this];rfl
 case c3=>exact fun x hx=>x2 _
 case c4=>
  intro v hv;simp only [List.mem_map] at hv;obtain ⟨x,_,rfl⟩:=hv;rfl
 have x9:gK (w3.drew.setCells b (j*25+9+d) ((List.range z).map fun x=>Value.int .i64 ((P.pg i).cell (mk+x)))) b (j*25) { P.pg j with cell:=fun x=>if d<=x/\x<d+z then (P.pg i).cell (mk+(x - d)) else (P.pg j).cell x }:=(show gK w3.drew b (j*25) _ from x4).setCells d z y1 (fun x=>(P.pg i).cell (mk+x));have zO:bZ b (j*25) w3 (w3.drew.setCells b (j*25+9+d) ((List.range z).map fun x=>Value.int .i64 ((P.pg i).cell (mk+x)))):=(show bZ b (j*25) w3 w3.drew from (bZ.refl _ _ _).drewN 1).setCells d z y1 (fun x=>(P.pg i).cell (mk+x));generalize w3.drew.setCells b (j*25+9+d) ((List.range z).map fun x=>Value.int .i64 ((P.pg i).cell (mk+x)))=w4 at*;have b0:=x9.used x6;have z1:∀ x,w4.frozen? ⟨b,x,none⟩=false:=by
  intro x;obtain ⟨T,cs,a5⟩:=H3.out.hb;obtain ⟨b9,h5⟩:=zO.row T cs a5;exact h5.free x
 have z8:=aA (x9.aBo x6 true);have x8:=zO.aPv x6 (.bool true);have z9:Hid (gK (w4.setCell ⟨b,j*25+1+l,none⟩ (.bool true)) b (i*25) (P.pg i)):=x8.keep (by have:=z3.out;omega) x3;have y0:=aA x8;have z2:∀ x,(w4.setCell ⟨b,j*25+1+l,none⟩ (.bool true)).frozen? ⟨b,x,none⟩=false:=fun x=>by rw [World.frozen?_setCell];exact z1 x
 have z5:=aA z2;clear x9 zO x3 x4 x8 z0 zf x2 z2;go_wp2_with fail;refine (aAB _ b (i*25) (P.pg i) z9.out z5.out k a8).mono ?_;rintro e w6 ⟨rfl,g6,o6⟩;have e5:IntKind.i64.wrap ((i:Int)*16)=(i:Int)*16:=IntWalk.i64_in _ (by omega);have e6:IntKind.i64.wrap ((j:Int)*16)=(j:Int)*16:=IntWalk.i64_in _ (by omega);clear b0 z1;go_wp2_with fail;go_ret3;refine hR.out _ _ ⟨?_,?_,?_⟩
 ·have e1:((16*i+mk:Nat):Int)=(i:Int)*16+(mk:Int):=by omega
  have e2:((16*j+d:Nat):Int)=(j:Int)*16+(d:Int):=by omega
  rw [e1,e2];rfl
 ·rw [h2.out];have e3:(P.pg j).take c l (fun x=>(P.pg i).cell (mk+x))={ cls:=(P.pg j).cls,used:=up (P.pg j).used l true,cell:=fun x=>if d<=x/\x<d+z then (P.pg i).cell (mk+(x - d)) else (P.pg j).cell x }:=by
   unfold Pg.take;rw [z7.out,z4.out,HZ.out]
  have hA:dP (w4.setCell ⟨b,j*25+1+l,none⟩ (.bool true)) p b (P.set j ((P.pg j).take c l fun x=>(P.pg i).cell (mk+x))):=
   H3.out.turn hj (by rw [e3];exact z8.out) y0.out h6.out
  exact hA.turn (i:=i) hi g6 o6 h0.out
 exact (y5.only [b]).trans ((y0.out.only).trans o6.only (by simp)) (by simp)
end Go.Proofs.YthflghdaejbdkaaGreat
