/- Lemmas of this claim. -/
import Derived.Test.YthflghdaejbdkaaGreatXcRBlock
import Derived.Test.YthflghdaejbdkaaGreatXcBModel
import Derived.Test.YthflghdaejbdkaaGreatXcLib
import Derived.Test.YthflghdaejbdkaaGreatXcInts
import Derived.OwnWalk
import Derived.Deep.DeepCutAuto
import Derived.Deep.CutBlock
namespace Go.Proofs.YthflghdaejbdkaaGreat
open _root_.Go.Proofs.Tryz (prog)
open Go.RowKit
set_option maxHeartbeats 1600000
set_option maxRecDepth 100000
set_option linter.unusedVariables false
theorem aGK (w:World) (q k c l:Nat) (P:Pl) (h:eH w q k c l P) (i:Int) :
  Calls prog 227 #[.pointer (some ⟨q,0,none⟩),.int .i64 i] w (aO w (.tuple #[.int .i64 (P.class i).1,.int .i64 (P.class i).2])):=by
 refine aF fun R y=>?_;obtain ⟨c1,c2,c3,z0,z1,z2,_⟩:=h.facts;have h3:=h.n24
 by_cases z:i<0
 ·rw [show P.class i=(0,1) by unfold Pl.class;rw [if_pos (.inl z)]] at y;have d:decide (i<0)=true:=by simpa using z
  go_in;go_wp2;exact y.out _ _ ⟨rfl,rfl⟩
 have d:decide (i<0)=false:=by simpa using z
 obtain ⟨I,rfl⟩:∃ I:Nat,i=I:=⟨i.toNat,by omega⟩
 by_cases h1:P.n<=I
 ·rw [show P.class (I:Int)=(0,1) by unfold Pl.class;rw [if_pos (.inr (by omega))]] at y;go_in;go_wp2;exact y.out _ _ ⟨rfl,rfl⟩
 have h2:decide (P.n<=I)=false:=by simpa using h1
 have e:I<P.n:=by omega
 have h4:=h.kind I e;rw [show P.class (I:Int)=((P.pg I).cls,0) by unfold Pl.class;rw [if_neg (by omega)];simp] at y;have H:=aA h;clear h h1;go_in;go_wp2;exact y.out _ _ ⟨rfl,rfl⟩
theorem aMQ {P:Pl} {i:Nat} (y:(P.pg i).ok) (z:IsC (P.pg i).cls):decide (0<=aFV P i)=(P.pg i).partly (P.pg i).cls:=by
 cases d:(P.pg i).partly (P.pg i).cls with
 | true=>rw [(aBL y z d).1];rw [decide_eq_true_eq];omega
 | false=>rw [aBM y z rfl d];rfl
theorem aAz (w:World) (q k c l:Nat) (P:Pl) (h:eH w q k c l P) (i:Nat) (hi:i<P.n) (d:(P.pg i).ok) (cl:Int) (hC:IsC cl) :
  Calls prog 271 #[.pointer (some ⟨q,0,none⟩),.int .i64 i,.int .i64 cl] w (aO w (.bool ((P.pg i).partly cl))):=by
 refine aF fun R hR=>?_;obtain ⟨c1,c2,c3,z0,z1,z2,_⟩:=h.facts;have h1:=h.n24;have h0:=h.kind i hi
 cases he:((P.pg i).cls == cl)
 ·have hp:Hid ((P.pg i).partly cl=false):=by show _=_;unfold Pg.partly;rw [he];rfl
  go_in;go_wp2;exact hR.out _ _ ⟨by rw [hp.out];rfl,rfl⟩
 have y:(P.pg i).cls=cl:=by simpa using he
 have hg:=tC w q k c l P h i hi (by rw [y];exact hC);have z:Hid (decide (0<=aFV P i)=(P.pg i).partly cl):=by have:=aMQ d (by rw [y];exact hC);rw [y] at this;exact this
 clear y;go_in;go_wp2_with fail;refine hg.mono ?_;rintro e _ ⟨rfl,rfl⟩;go_wp2;exact hR.out _ _ ⟨by rw [<-z.out];rfl,rfl⟩
set_option maxHeartbeats 3200000
def aCx (fr y:Option Nat):Value:=.tuple #[.int .i64 (aOz fr),.int .i64 (aOz y),.bool y.isSome]
theorem aFy (w:World) (q k c l:Nat) (P:Pl) (h:eH w q k c l P) (x5:P.ok) (cl:Int) (hC:IsC cl) :
  Calls prog 251 #[.pointer (some ⟨q,0,none⟩),.int .i64 cl] w (aO w (aCx (P.frm cl P.n) (P.too cl (P.frm cl P.n) P.n))):=by
 refine aF fun R hR=>?_;obtain ⟨c1,c2,c3,z0,z1,z2,_⟩:=h.facts;have x8:=h.n24;have H:=aA h;have h5:=aA x5;clear h x5;go_in;go_wp2_with fail;go_loop [7,8] (fun s2 h9=>∃ (i:Nat) (fr:Option Nat),i<=P.n/\h9=.int .i64 i/\Hid (P.frm cl i=fr)/\IsO s2 fr) (fun _ h9=>P.n - (intOf h9).toNat)
 case atStart=>exact ⟨0,none,by omega,rfl,rfl,rfl⟩
 case round=>
  obtain ⟨i,fr,hi,rfl,h3,ho⟩:=hrel
  by_cases h1:i<P.n
  ·have y:=aAz w q k c l P H.out i h1 (h5.out i h1) cl hC;have h6:=nH w q k c l P H.out i h1 (h5.out i h1).w
   cases d:(P.pg i).partly cl with
   | false=>
    rw [d] at y;have hN:=aA (aFY h3.out d);clear d;go_wp2_with fail;refine y.mono ?_;rintro e _ ⟨rfl,rfl⟩;go_wp2_with fail;go_round
    case rel=>exact ⟨i+1,fr,by omega,by go_num,hN,ho⟩
    case measure=>simp [intOf];omega
   | true=>
    rw [d] at y;have HP:=aA d;clear d
    cases fr with
    | none=>
     obtain rfl:_=Value.int .i64 (-1):=ho;have hN:=aA (aDE h3.out HP.out);go_wp2_with fail;refine y.mono ?_;rintro e _ ⟨rfl,rfl⟩;go_wp2_with fail;go_round
     case rel=>exact ⟨i+1,some i,by omega,by go_num,hN,rfl⟩
     case measure=>simp [intOf];omega
    | some f=>
     obtain rfl:_=Value.int .i64 (f:Int):=ho;have hf:=(Pl.aBO h3.out).1;have h7:=nH w q k c l P H.out f (by omega) (h5.out f (by omega)).w;have x7:decide ((f:Int)<0)=false:=by simp
     have c8:=(P.pg i).count_le;have d8:=(P.pg f).count_le
     by_cases z:(P.pg i).count<=(P.pg f).count
     ·have hN:=aA (aGa h3.out HP.out z);go_wp2_with fail;refine y.mono ?_;rintro e _ ⟨rfl,rfl⟩;go_wp2_with fail;refine h6.mono ?_;rintro e _ ⟨rfl,rfl⟩;go_wp2_with fail;refine h7.mono ?_;rintro e _ ⟨rfl,rfl⟩;go_wp2_with fail;go_round
      case rel=>exact ⟨i+1,some i,by omega,by go_num,hN,rfl⟩
      case measure=>simp [intOf];omega
     have hN:=aA (aFZ h3.out z);have x6:decide ((P.pg i).count<=(P.pg f).count)=false:=by simpa using z
     clear z;go_wp2_with fail;refine y.mono ?_;rintro e _ ⟨rfl,rfl⟩;go_wp2_with fail;refine h6.mono ?_;rintro e _ ⟨rfl,rfl⟩;go_wp2_with fail;refine h7.mono ?_;rintro e _ ⟨rfl,rfl⟩;go_wp2_with fail;go_round
     case rel=>exact ⟨i+1,some f,by omega,by go_num,hN,rfl⟩
     case measure=>simp [intOf];omega
  obtain rfl:i=P.n:=by omega
  rw [h3.out] at hR;go_wp2_with fail;go_loop [9,10] (fun s3 x1=>∃ (j:Nat) (tq:Option Nat),j<=P.n/\x1=.int .i64 j/\Hid (P.too cl fr j=tq)/\IsO s3 tq) (fun _ x1=>P.n - (intOf x1).toNat)
  case atStart=>exact ⟨0,none,by omega,rfl,rfl,rfl⟩
  case round=>
   clear h1;obtain ⟨j,tq,hj,rfl,h0,h4⟩:=hrel
   by_cases h2:j<P.n
   ·have y:=aAz w q k c l P H.out j h2 (h5.out j h2) cl hC;have h6:=nH w q k c l P H.out j h2 (h5.out j h2).w
    cases fr with
    | none=>
     obtain rfl:_=Value.int .i64 (-1):=ho;have d:=Pl.wQ h3.out j h2;have hN:=aA (wF h0.out d);have hb:((j:Int) != -1)=true:=by rw [bne_iff_ne];omega
     rw [d] at y;clear d;go_wp2_with fail;refine y.mono ?_;rintro e _ ⟨rfl,rfl⟩;go_wp2_with fail;go_round
     case rel=>exact ⟨j+1,tq,by omega,by go_num,hN,h4⟩
     case measure=>simp [intOf];omega
    | some f=>
     obtain rfl:_=Value.int .i64 (f:Int):=ho
     by_cases h8:j=f
     ·have hN:=aA (aFm h0.out (by rw [h8]));have hb:((j:Int) != (f:Int))=false:=by rw [bne_eq_false_iff_eq];omega
      clear h8;go_wp2_with fail;go_round
      case rel=>exact ⟨j+1,tq,by omega,by go_num,hN,h4⟩
      case measure=>simp [intOf];omega
     have x4:some j≠some f:=by simpa using h8
     have x2:=aA x4;have hb:((j:Int) != (f:Int))=true:=by rw [bne_iff_ne];omega
     clear h8 x4
     cases d:(P.pg j).partly cl with
     | false=>
      rw [d] at y;have hN:=aA (wF h0.out d);clear d;go_wp2_with fail;refine y.mono ?_;rintro e _ ⟨rfl,rfl⟩;go_wp2_with fail;go_round
      case rel=>exact ⟨j+1,tq,by omega,by go_num,hN,h4⟩
      case measure=>simp [intOf];omega
     | true=>
      rw [d] at y;have HP:=aA d;clear d
      cases tq with
      | none=>
       obtain rfl:_=Value.int .i64 (-1):=h4;have hN:=aA (aCk h0.out x2.out HP.out);go_wp2_with fail;refine y.mono ?_;rintro e _ ⟨rfl,rfl⟩;go_wp2_with fail;go_round
       case rel=>exact ⟨j+1,some j,by omega,by go_num,hN,rfl⟩
       case measure=>simp [intOf];omega
      | some t=>
       obtain rfl:_=Value.int .i64 (t:Int):=h4;have ht:=(Pl.nZ h0.out).1;have h7:=nH w q k c l P H.out t (by omega) (h5.out t (by omega)).w;have x7:decide ((t:Int)<0)=false:=by simp
       have c8:=(P.pg j).count_le;have d8:=(P.pg t).count_le
       by_cases z:(P.pg t).count<(P.pg j).count
       ·have hN:=aA (aFo h0.out x2.out HP.out z);go_wp2_with fail;refine y.mono ?_;rintro e _ ⟨rfl,rfl⟩;go_wp2_with fail;refine h6.mono ?_;rintro e _ ⟨rfl,rfl⟩;go_wp2_with fail;refine h7.mono ?_;rintro e _ ⟨rfl,rfl⟩;go_wp2_with fail;go_round
        case rel=>exact ⟨j+1,some j,by omega,by go_num,hN,rfl⟩
        case measure=>simp [intOf];omega
       have hN:=aA (aFp h0.out z);have x6:decide ((P.pg t).count<(P.pg j).count)=false:=by simpa using z
       clear z;go_wp2_with fail;refine y.mono ?_;rintro e _ ⟨rfl,rfl⟩;go_wp2_with fail;refine h6.mono ?_;rintro e _ ⟨rfl,rfl⟩;go_wp2_with fail;refine h7.mono ?_;rintro e _ ⟨rfl,rfl⟩;go_wp2_with fail;go_round
       case rel=>exact ⟨j+1,some t,by omega,by go_num,hN,rfl⟩
       case measure=>simp [intOf];omega
   obtain rfl:j=P.n:=by omega
   rw [h0.out] at hR;have x3:∀ o:Option Nat,∀ v,IsO v o->v=.int .i64 (aOz o):=by
    intro o v hv
    cases o with
    | none=>exact hv
    | some f=>exact hv
   obtain rfl:=x3 fr _ ho
   cases tq with
   | none=>
    obtain rfl:_=Value.int .i64 (-1):=h4;go_wp2_with fail;go_ret3;exact hR.out _ _ ⟨rfl,rfl⟩
   | some t=>
    obtain rfl:_=Value.int .i64 (t:Int):=h4;have x9:decide (0<=(t:Int))=true:=by simp
    clear x3;go_wp2_with fail;go_ret3;exact hR.out _ _ ⟨rfl,rfl⟩
set_option maxHeartbeats 6400000
theorem aFE {P:Pl} {c:Int}:P.eF c=match P.frm c P.n,P.too c (P.frm c P.n) P.n with|some f,some t=>some (f,t)|_,_=>none:=rfl
theorem aAA {P:Pl} {c:Int} (h:P.eF c=none):(P.too c (P.frm c P.n) P.n).isSome=false:=by
 rw [aFE] at h
 cases d:P.frm c P.n with
 | none=>
  cases z:P.too c none P.n with
  | none=>rfl
  | some t=>
   exfalso;have y:=Pl.nZ z;rw [Pl.wQ d t y.1] at y;exact absurd y.2.2 (by simp)
 | some f=>
  rw [d] at h
  cases z:P.too c (some f) P.n with
  | none=>rfl
  | some t=>rw [z] at h;cases h
theorem aGH {P:Pl} {c:Int} {i j:Nat} (h:P.eF c=some (i,j)):P.frm c P.n=some i/\P.too c (P.frm c P.n) P.n=some j:=by
 rw [aFE] at h
 cases y:P.frm c P.n with
 | none=>rw [y] at h;simp at h
 | some f=>
  rw [y] at h
  cases z:P.too c (some f) P.n with
  | none=>rw [z] at h;simp at h
  | some t=>rw [z] at h;simp at h;rw [h.1,h.2] at*;exact ⟨rfl,rfl⟩
theorem Pl.aHa (P:Pl):(P.pair=none/\P.eF 0=none/\P.eF 1=none/\P.eF 2=none)\/∃ c i j,c<=2/\(∀ d:Nat,d<c->P.eF d=none)/\P.eF (c:Nat)=some (i,j)/\P.pair=some (i,j):=by
 cases y:P.eF 0 with
 | some x=>
  obtain ⟨i,j⟩:=x;exact .inr ⟨0,i,j,by omega,fun d hd=>by omega,y,by unfold Pl.pair;rw [y];rfl⟩
 | none=>
  cases z:P.eF 1 with
  | some x=>
   obtain ⟨i,j⟩:=x;exact .inr ⟨1,i,j,by omega,fun d hd=>by obtain rfl:d=0:=(by omega);exact y,z,by unfold Pl.pair;rw [y,z];rfl⟩
  | none=>
   cases e:P.eF 2 with
   | some x=>
    obtain ⟨i,j⟩:=x;refine .inr ⟨2,i,j,by omega,fun d hd=>?_,e,by unfold Pl.pair;rw [y,z,e];rfl⟩;have h3:d=0\/d=1:=by omega
    rcases h3 with rfl|rfl
    ·exact y
    exact z
   | none=>exact .inl ⟨by unfold Pl.pair;rw [y,z,e];rfl,rfl,rfl,rfl⟩
theorem aGJ (w:World) (q k c l:Nat) (P:Pl) (h:eH w q k c l P) (h0:P.ok) (hp:P.pair=none) :
  Calls prog 226 #[.pointer (some ⟨q,0,none⟩)] w (aO w (.tuple #[.int .i64 0,.int .i64 0,.int .i64 3])):=by
 refine aF fun R hR=>?_;have hn:Hid (∀ d:Nat,d<=2->P.eF d=none):=fun d hd=>Pl.aJt hp (by unfold IsC;omega);have h1:Hid (∀ (d:Nat),d<=2->Calls prog 251 #[.pointer (some ⟨q,0,none⟩),.int .i64 (d:Int)] w (aO w (aCx (P.frm d P.n) (P.too d (P.frm d P.n) P.n)))):=fun d hd=>aFy w q k c l P h h0 d (by unfold IsC;omega);clear hp;go_in;go_wp2_with fail;go_loop [5] (fun v=>∃ d:Nat,d<=3/\v=.int .i64 d) (fun v=>3 - (intOf v).toNat)
 case atStart=>exact ⟨0,by omega,rfl⟩
 case round=>
  obtain ⟨d,hd,rfl⟩:=hrel
  by_cases z:d<=2
  ·have y:=h1.out d z;unfold aCx at y;rw [aAA (hn.out d z)] at y;generalize aOz (P.frm d P.n)=v1 at y;generalize aOz (P.too d (P.frm d P.n) P.n)=v2 at y;go_wp2_with fail;refine y.mono ?_;rintro e _ ⟨rfl,rfl⟩;go_wp2_with fail;go_round
   case rel=>exact ⟨d+1,by omega,by go_num⟩
   case measure=>simp [intOf];omega
  obtain rfl:d=3:=by omega
  go_wp2_with fail;go_ret3;exact hR.out _ _ ⟨rfl,rfl⟩
theorem aEK {p:Pg} (z:IsC p.cls) {x:Nat} (hx:x<p.top p.cls*bsz p.cls) (h0:x<16):p.live x=false:=by
 cases hl:p.live x with
 | false=>rfl
 | true=>
  obtain ⟨h1,d⟩:=(Pg.aBD z x).1 hl;have y:=(dQ p.used (bpt p.cls)).1 (x / bsz p.cls) (by
   show x / bsz p.cls<p.top p.cls;have hf:=z.facts;rcases hf with ⟨e,_⟩|⟨e,_⟩|⟨e,_⟩<;>(rw [e] at hx ⊢;omega))
  rw [d] at y
  cases y
theorem aIG {p:Pg} {cl:Int} {lg d z y:Nat} (hz:bsz cl=z) (h0:lg*z=d) (hy:y<z) (f:Nat->Int) :
  ({ p.take cl lg (fun x=>if x<y then f x else 0) with cell:=up (p.take cl lg (fun x=>if x<y then f x else 0)).cell (d+y) (f y) }:Pg)=p.take cl lg (fun x=>if x<y+1 then f x else 0):=by
 unfold Pg.take;simp only [hz,h0];congr 1;funext j;unfold up
 by_cases e1:j=d+y
 ·subst e1;rw [if_pos rfl,if_pos (by omega),if_pos (by omega)];congr 1;omega
 rw [if_neg e1];show (if d<=j/\j<d+z then (if j - d<y then f (j - d) else 0) else p.cell j)=_
 by_cases e:d<=j/\j<d+z
 ·rw [if_pos e,if_pos e]
  by_cases e3:j - d<y
  ·rw [if_pos e3,if_pos (by omega)]
  rw [if_neg e3,if_neg (by omega)]
 rw [if_neg e,if_neg e]
theorem aLA {p:Pg} {cl:Int} {d z:Nat} (e:bsz cl=z) (f:Nat->Int):p.take cl d (fun x=>if x<z then f x else 0)=p.take cl d f:=by
 unfold Pg.take;simp only [e];congr 1;funext j
 by_cases y:d*z<=j/\j<d*z+z
 ·rw [if_pos y,if_pos y,if_pos (by omega)]
 rw [if_neg y,if_neg y]
theorem aGI (w:World) (q k c l:Nat) (P:Pl) (h:eH w q k c l P) (h9:P.ok) (i j:Nat) (hp:P.pair=some (i,j)) :
  Calls prog 226 #[.pointer (some ⟨q,0,none⟩)] w fun e w'=>
   e=.returned (.tuple #[.int .i64 ((16*i+(P.pg i).top (P.pg i).cls*bsz (P.pg i).cls:Nat):Int),.int .i64 ((16*j+(P.pg j).gap (P.pg j).cls*bsz (P.pg i).cls:Nat):Int),.int .i64 0])/\eH w' q k c l (P.moved i j)/\Only [k,c,l] w w':=by
 refine aF fun R hR=>?_;have hP:=Pl.jG hp;obtain ⟨cc,b8,a3,y8⟩:∃ cc:Nat,cc<=2/\(∀ d:Nat,d<cc->P.eF d=none)/\P.eF cc=some (i,j):=by
  rcases P.aHa with ⟨h0,_⟩|⟨cc,i',j',h1,h2,h3,h4⟩
  ·rw [h0] at hp;cases hp
  rw [hp] at h4;cases h4;exact ⟨cc,h1,h2,h3⟩
 have h5:(P.pg i).cls=(cc:Int):=(Pl.oK (by unfold IsC;omega) y8).2;have hC:IsC (cc:Int):=by unfold IsC;omega
 have x6:IsC (P.pg i).cls:=by rw [h5];exact hC
 have h6:(P.pg j).cls=(cc:Int):=hP.same.trans h5;have x2:(P.pg i).cls≠-1:=by rw [h5];omega
 have h7:=(h9 i hP.hi).top x2;have y9:(P.pg j).partly (cc:Int)=true:=by rw [<-h5];exact hP.pj
 have mM:=(h9 j hP.hj).gap hC y9;have y2:Hid (P.moved i j=(P.set j ((P.pg j).take (P.pg i).cls ((P.pg j).gap (P.pg j).cls) fun x=>(P.pg i).cell ((P.pg i).top (P.pg i).cls*bsz (P.pg i).cls+x))).set i ((P.pg i).release ((P.pg i).top (P.pg i).cls))):=rfl;rw [h5,h6] at y2;rw [h5,h6] at hR;rw [h5] at h7;have hi:=hP.hi;have hj:=hP.hj;have a2:=hP.ne;have d6:=h.n24;have x7:=hC.blk h7.1;have x8:=hC.blk mM.1;have a5:=hC.sz;have y5:Hid (∀ x,x<(P.pg i).top (cc:Int)*bsz (cc:Int)->(P.pg i).live x=false):=fun x hx=>aEK x6 (by rw [h5];exact hx) (by omega);have y0:Hid ((P.pg i).live ((P.pg i).top (cc:Int)*bsz (cc:Int))=true):=by
  have:=Pg.uD x6 ((P.pg i).top (cc:Int));rw [h5] at this;show _=_;rw [this];exact h7.2
 have a4:Hid (∀ (d:Nat),d<=2->Calls prog 251 #[.pointer (some ⟨q,0,none⟩),.int .i64 (d:Int)] w (aO w (aCx (P.frm d P.n) (P.too d (P.frm d P.n) P.n)))):=fun d hd=>aFy w q k c l P h h9 d (by unfold IsC;omega);have b7:Hid (Calls prog 251 #[.pointer (some ⟨q,0,none⟩),.int .i64 (cc:Int)] w (aO w (.tuple #[.int .i64 (i:Int),.int .i64 (j:Int),.bool true]))):=by
  have h1:=a4.out cc b8;obtain ⟨e1,e2⟩:=aGH y8;rw [e2,e1] at h1;exact h1
 have a1:=tC w q k c l P h j hj (by rw [h6];exact hC);obtain ⟨x9,_⟩:=aBL (h9 j hj) hC y9;have hcut:=fun wx=>zS wx (cc:Int) hC;have y3:Hid (∀ a:Int,a=((j*16+(P.pg j).gap (cc:Int)*bsz (cc:Int):Nat):Int)->Calls prog 253 #[.pointer (some ⟨q,0,none⟩),.int .i64 a,.int .i64 (bsz (cc:Int):Nat)] w fun e w'=>e=.returned (.tuple #[])/\eH w' q k c l (P.set j ((P.pg j).take (cc:Int) ((P.pg j).gap (cc:Int)) fun _=>0))/\Only [c,l] w w'):=
  fun a ha=>aEi w q k c l P h j hj (cc:Int) hC h6 ((P.pg j).gap (cc:Int)) _ _ mM.1 rfl rfl a ha
 have x3:Hid (∀ f,(P.set j ((P.pg j).take (cc:Int) ((P.pg j).gap (cc:Int)) f)).ok):=fun f=>h9.set ((h9 j hj).take hC (.inr h6) mM.1 f);obtain ⟨tk,z7⟩:∃ x,x=(P.pg i).top (cc:Int):=⟨_,rfl⟩;obtain ⟨lg,z8⟩:∃ x,x=(P.pg j).gap (cc:Int):=⟨_,rfl⟩;obtain ⟨z,hz⟩:∃ x,x=bsz (cc:Int):=⟨_,rfl⟩;simp only [<-z7,<-z8,<-hz] at y2 hR h7 mM x7 x8 a5 y5 y0 x9 hcut y3 x3;obtain ⟨mk,y6⟩:∃ x,x=tk*z:=⟨_,rfl⟩;obtain ⟨ml,y7⟩:∃ x,x=lg*z:=⟨_,rfl⟩;simp only [<-y6,<-y7] at y2 hR x7 x8 y5 y0 x9 y3;have c9:mk+z<=16:=x7.1;have c8:ml+z<=16:=x8.1;have f6:z<=8:=by omega
 have c4:0<z:=by omega
 obtain ⟨B,hB⟩:∃ B,B=j*16+ml:=⟨_,rfl⟩;have a0:aFV P j=(B:Int):=by rw [x9,hB];omega
 rw [a0] at a1;have b3:Hid (Calls prog 253 #[.pointer (some ⟨q,0,none⟩),.int .i64 (B:Int),.int .i64 (z:Int)] w fun e w'=>e=.returned (.tuple #[])/\eH w' q k c l (P.set j ((P.pg j).take (cc:Int) lg fun _=>0))/\Only [c,l] w w'):=y3.out _ (by rw [hB]);have H:=aA h;have c7:=aA h9;have a9:=aA a3;have z5:=aA a2;have HZ:=aA hz;have a8:=aA y7;have z4:=aA hB;have b6:=aA h5;have c6:=aA x6;have b0:=aA y6;have d0:=aA h7;have d4:=aA x2;have d9:B<P.n*16:=by omega
 have d8:B+z<=P.n*16:=by omega
 have b4:Hid (((16*j+ml:Nat):Int)=(B:Int)):=by show _=_;omega
 rw [b4.out] at hR;obtain ⟨c1,c2,c3,z0,z1,z2,f0,f1,f2,_⟩:=h.facts;have z3:Hid (∀ x,x<16->w.cell? ⟨l,i*16+x,none⟩=some (.bool ((P.pg i).live x))):=h.live i hi;clear h h9 a3 a2 hz y7 hB h5 x6 y6 z7 z8 hp hP y8 x9 x7 x8 a5 h7 mM x2 y9 y3 a0 h6;go_in;go_wp2_with fail;go_loop [5] (fun v=>∃ d:Nat,d<=cc/\v=.int .i64 d) (fun v=>cc - (intOf v).toNat)
 case atStart=>exact ⟨0,by omega,rfl⟩
 case round=>
  obtain ⟨d,hd,rfl⟩:=hrel
  by_cases h8:d<cc
  ·have b9:d<=2:=by omega
   have hc:=a4.out d b9;unfold aCx at hc;rw [aAA (a9.out d h8)] at hc;generalize aOz (P.frm d P.n)=v1 at hc;generalize aOz (P.too d (P.frm d P.n) P.n)=v2 at hc;go_wp2_with fail;refine hc.mono ?_;rintro e _ ⟨rfl,rfl⟩;go_wp2_with fail;go_round
   case rel=>exact ⟨d+1,by omega,by go_num⟩
   case measure=>simp [intOf];omega
  obtain rfl:d=cc:=by omega
  go_wp2_with fail;refine b7.out.mono ?_;rintro e _ ⟨rfl,rfl⟩;go_wp2_with fail;go_loop [9] (fun v=>∃ x s:Nat,x<=mk/\s=i*16+x/\v=.int .i64 s) (fun v=>i*16+mk - (intOf v).toNat)
  case atStart=>exact ⟨0,i*16,by omega,rfl,by go_num⟩
  case round=>
   clear h8;obtain ⟨x,s,hx,hs,rfl⟩:=hrel;have y1:=z3.out x (by omega);rw [<-hs] at y1;have f3:s<P.n*16:=by omega
   by_cases h8:x<mk
   ·rw [y5.out x h8] at y1;have c0:Hid (s+1=i*16+(x+1)):=by show _=_;omega
    have HS:=aA hs;have e9:s<i*16+mk:=by omega
    clear hs;go_wp2_with fail;go_round
    case rel=>exact ⟨x+1,s+1,by omega,c0.out,by go_num⟩
    case measure=>simp [intOf];omega
   obtain rfl:mk=x:=by omega
   rw [y0.out] at y1;have HS:=aA hs;have d7:s+z<=P.n*16:=by omega
   clear hs h8;go_wp2_with fail;refine a1.mono ?_;rintro e _ ⟨rfl,rfl⟩;go_wp2_with fail;refine (hcut _).mono ?_;rintro e _ ⟨rfl,rfl⟩;go_wp2_with fail;refine b3.out.mono ?_;rintro e w2 ⟨rfl,h2,o2⟩;have H2:=aA h2;clear z0 z1 z2 f0 f1 f2 y1 h2;go_wp2;go_loopw [11] (fun v wr=>∃ y:Nat,y<=z/\v=.int .i64 y/\eH wr q k c l (P.set j ((P.pg j).take (d:Int) lg fun x=>if x<y then (P.pg i).cell (mk+x) else 0))/\Only [c,l] w wr) (fun v _=>z - (intOf v).toNat)
   case atStart=>exact ⟨0,by omega,rfl,by simpa using H2.out,o2⟩
   case round=>
    clear H2 o2;obtain ⟨y,hy,rfl,h3,o3⟩:=hrel;obtain ⟨d1,d2,d3,z0,z1,z2,f0,f1,f2,_⟩:=h3.facts;simp only [Pl.aPM] at z0 z1 z2
    by_cases h8:y<z
    ·have x4:=h3.cells i hi (mk+y) (by omega);rw [Pl.aV _ _ z5.out] at x4;have x1:=h3.cells j hj (ml+y) (by omega);have h4:=h3.setCell (i:=j) (j:=ml+y) hj (by omega) ((P.pg i).cell (mk+y));rw [Pl.aP,Pl.set_set,aIG HZ.out.symm a8.out.symm h8 (fun x=>(P.pg i).cell (mk+x))] at h4;rw [<-Nat.add_assoc,<-z4.out] at h4;rw [<-Nat.add_assoc,<-z4.out] at x1;rw [<-Nat.add_assoc,<-HS.out] at x4;have H4:=aA h4;have H3:=aA h3;have f4:IntKind.i64.wrap ((B:Int)+(y:Int))=(B:Int)+(y:Int):=IntWalk.i64_in _ (by omega);have f5:IntKind.i64.wrap ((s:Int)+(y:Int))=(s:Int)+(y:Int):=IntWalk.i64_in _ (by omega);have e7:((B:Int)+(y:Int)).toNat=B+y:=by omega
     have e8:((s:Int)+(y:Int)).toNat=s+y:=by omega
     have e0:B+y<P.n*16:=by omega
     have e4:s+y<P.n*16:=by omega
     have e5:(B:Int)+(y:Int)<(P.n:Int)*16:=by omega
     have e6:(s:Int)+(y:Int)<(P.n:Int)*16:=by omega
     have d5:0<=(B:Int)+(y:Int):=by omega
     have c5:0<=(s:Int)+(y:Int):=by omega
     clear h3 h4;go_wp2_with fail;refine (hcut _).mono ?_;rintro e _ ⟨rfl,rfl⟩;go_wp2_with fail;go_still_tail 17,(by kernel_rfl);change wpList _ _ _ _ _ wr.drew;have g1:wr.drew.frozen? ⟨c,B+y,none⟩=false:=f1 _;have g2:∃ v,wr.drew.cell? ⟨c,B+y,none⟩=some v:=⟨_,x1⟩;obtain ⟨vd,g2⟩:=g2;refine wpList_plain rfl fun K hK=>?_;unfold Oper.wp;go_simp;refine hK _ _ ?_;clear hK K;refine wpList_nil ?_;clear g1 g2 x4 x1;go_wp2;exact ⟨⟨y+1,by omega,by go_num,H4.out.sF (lN.of _ 1),(o3.set (by simp) _).drewN 1⟩,by simp [intOf];omega⟩
    obtain rfl:z=y:=by omega
    have a6:Hid ((P.pg j).take (d:Int) lg (fun x=>if x<z then (P.pg i).cell (mk+x) else 0)=(P.pg j).take (d:Int) lg fun x=>(P.pg i).cell (mk+x)):=aLA HZ.out.symm _;rw [a6.out] at h3;have b5:s=i*16+mk:=HS.out;have y4:(P.set j ((P.pg j).take (d:Int) lg fun x=>(P.pg i).cell (mk+x))).pg i=P.pg i:=Pl.aV _ _ z5.out;have z6:Adr (P.set j ((P.pg j).take (d:Int) lg fun x=>(P.pg i).cell (mk+x))) s i mk:=⟨by omega,by omega,hi,by omega,by omega⟩;have z9:(P.set j ((P.pg j).take (d:Int) lg fun x=>(P.pg i).cell (mk+x))).free (s:Int)=(0,P.moved i j):=by
     obtain ⟨b1,b2⟩:=(tZ (x3.out _) z6).1 (by rw [y4];exact y0.out);unfold Pl.free;rw [if_pos b1,if_pos b2];have e1:((s:Int).toNat / 16)=i:=by omega
     have e2:((s:Int).toNat % 16)=mk:=by omega
     rw [e1,e2,y4,y2.out];have e3:mk / bsz (P.pg i).cls=tk:=by rw [b6.out,<-HZ.out,b0.out];exact Nat.mul_div_cancel _ c4
     rw [e3]
    have x5:=aCy wr q k c l _ h3 (x3.out _) (s:Int);rw [z9] at x5;have a7:Hid (((16*i+mk:Nat):Int)=(s:Int)):=by show _=_;omega
    rw [a7.out] at hR;clear h3 b5 z6 z9 y4 h8;go_wp2_with fail;refine (hcut _).mono ?_;rintro e _ ⟨rfl,rfl⟩;go_wp2_with fail;refine x5.mono ?_;rintro e w4 ⟨rfl,h4,o4⟩;go_wp2_with fail;go_ret3;exact hR.out _ _ ⟨rfl,h4,(o3.mono (by simp)).trans o4 (by simp)⟩
theorem xQ (w:World) (q k c l:Nat) (P:Pl) (h:eH w q k c l P) (y:P.ok) :
  Calls prog 226 #[.pointer (some ⟨q,0,none⟩)] w fun e w'=>
   e=.returned (.tuple #[.int .i64 P.move.1,.int .i64 P.move.2.1,.int .i64 P.move.2.2.1])/\eH w' q k c l P.move.2.2.2/\Only [k,c,l] w w':=by
 cases z:P.pair with
 | none=>
  rw [Pl.fC z];exact (aGJ w q k c l P h y z).mono fun e w' ⟨a,b⟩=>⟨a,b▸h,b▸Only.refl _ _⟩
 | some x=>
  obtain ⟨i,j⟩:=x;rw [Pl.fB z];exact aGI w q k c l P h y i j z
theorem aFP:(prog.info? 3).map (fun i=>(i.zero,i.size,i.bytes))=some (some (.int .i64 0),1,8):=by kernel_rfl
theorem aDd:(prog.info? 4).map (fun i=>(i.zero,i.size,i.bytes))=some (some (.bool false),1,1):=by kernel_rfl
def Pl.kinds (P:Pl):List Value:=(List.range P.n).map fun i=>.int .i64 (P.pg i).cls
def Pl.uU (P:Pl):List Value:=(List.range (P.n*16)).map fun x=>.int .i64 ((P.pg (x / 16)).cell (x % 16))
def Pl.uF (P:Pl):List Value:=(List.range (P.n*16)).map fun x=>.bool ((P.pg (x / 16)).live (x % 16))
theorem eH.aOw {w:World} {q k c l:Nat} {P:Pl} (hq:∃ T d e c3,Row w q T [.slice (some ⟨k,0,none⟩) P.n d,.slice (some ⟨c,0,none⟩) (P.n*16) e,.slice (some ⟨l,0,none⟩) (P.n*16) c3])
  (rk:∃ T cs,Row w k T cs) (rc:∃ T cs,Row w c T cs) (rl:∃ T cs,Row w l T cs)
  (hk:∀ j v,P.kinds[j]?=some v->w.cell? ⟨k,j,none⟩=some v) (hc:∀ j v,P.uU[j]?=some v->w.cell? ⟨c,j,none⟩=some v) (hl:∀ j v,P.uF[j]?=some v->w.cell? ⟨l,j,none⟩=some v)
  (ne:q≠k/\q≠c/\q≠l/\k≠c/\k≠l/\c≠l) (n1:1<=P.n) (z:P.n<=24):eH w q k c l P:=by
 refine ⟨hq,rk,rc,rl,fun i y=>hk i _ (by simp [Pl.kinds,y]),fun i y j hj=>?_,fun i y j hj=>?_,ne,n1,z⟩
 ·have:=hc (i*16+j) (.int .i64 ((P.pg ((i*16+j) / 16)).cell ((i*16+j) % 16))) (by unfold Pl.uU;rw [List.getElem?_map,List.getElem?_range (by omega)];rfl);rw [show (i*16+j) / 16=i by omega,show (i*16+j) % 16=j by omega] at this;exact this
 have:=hl (i*16+j) (.bool ((P.pg ((i*16+j) / 16)).live ((i*16+j) % 16))) (by unfold Pl.uF;rw [List.getElem?_map,List.getElem?_range (by omega)];rfl);rw [show (i*16+j) / 16=i by omega,show (i*16+j) % 16=j by omega] at this;exact this
theorem eH.news {w:World} {q k c l:Nat} {P:Pl} (h:eH w q k c l P):(∀ j v,P.kinds[j]?=some v->w.cell? ⟨k,j,none⟩=some v)/\(∀ j v,P.uU[j]?=some v->w.cell? ⟨c,j,none⟩=some v)/\(∀ j v,P.uF[j]?=some v->w.cell? ⟨l,j,none⟩=some v):=by
 refine ⟨fun j v y=>?_,fun j v y=>?_,fun j v y=>?_⟩
 ·obtain ⟨z,rfl⟩:=aBr y;exact h.kind j z
 ·obtain ⟨z,rfl⟩:=aBr y;have:=h.cells (j / 16) (by omega) (j % 16) (by omega);rwa [show j / 16*16+j % 16=j by omega] at this
 obtain ⟨z,rfl⟩:=aBr y;have:=h.live (j / 16) (by omega) (j % 16) (by omega);rwa [show j / 16*16+j % 16=j by omega] at this
theorem aOk {w wl:World} {a b c:Addr} {y z d:Value} (o:Obj) (h:wl.cell? a=some y/\wl.cell? b=some z/\wl.cell? c=some d/\Only [] w wl) :
  (wl.alloc o).cell? a=some y/\(wl.alloc o).cell? b=some z/\(wl.alloc o).cell? c=some d/\Only [] w (wl.alloc o):=
 have k:Only [] wl (wl.alloc o):=(Only.refl [] wl).alloc o
 ⟨k.cell h.1 (by simp),k.cell h.2.1 (by simp),k.cell h.2.2.1 (by simp),h.2.2.2.alloc o⟩
theorem nI (w:World) (q k c l:Nat) (P:Pl) (h:eH w q k c l P) :
  Calls prog 190 #[.pointer (some ⟨q,0,none⟩)] w fun e w'=>
   ∃ q' k' c' l',e=.returned (.pointer (some ⟨q',0,none⟩))/\eH w' q' k' c' l' P/\Only [] w w'/\w.heap.size<=q'/\w.heap.size<=k'/\w.heap.size<=c'/\w.heap.size<=l':=by
 refine aF fun R hR=>?_;obtain ⟨c1,c2,c3,z0,z1,z2,_⟩:=h.facts;have x6:=h.n24;have h1:=h.n1;have HN:=aA h.news;have x7:0<P.n*16:=by omega
 have x8:P.n*16<=1099511627776:=by omega
 obtain ⟨i0,h6,x2,x3,x4⟩:=info_parts aFP;obtain ⟨j0,h7,h8,h9,x1⟩:=info_parts aDd;have I0:=aA h6;have I1:=aA x2;have I2:=aA x3;have I3:Hid (i0.bytes<=16):=by show _<=_;rw [x4];decide
 have J0:=aA h7;have J1:=aA h8;have J2:=aA h9;have J3:Hid (j0.bytes<=16):=by show _<=_;rw [x1];decide
 have LK:Hid (P.kinds.length=P.n):=by show _=_;simp [Pl.kinds]
 have LC:Hid (P.uU.length=P.n*16):=by show _=_;simp [Pl.uU]
 have LL:Hid (P.uF.length=P.n*16):=by show _=_;simp [Pl.uF]
 have hO:Only [] w w.drew:=(Only.refl _ _).drewN 1;clear h6 x2 x3 x4 h7 h8 h9 x1 h;go_in;go_wp2;go_region_held3 (fun w'=>w'.cell? ⟨q,0,none⟩=some (.slice (some ⟨k,0,none⟩) P.n c1)/\w'.cell? ⟨q,1,none⟩=some (.slice (some ⟨c,0,none⟩) (P.n*16) c2)/\w'.cell? ⟨q,2,none⟩=some (.slice (some ⟨l,0,none⟩) (P.n*16) c3)/\Only [] w w')
  (first
   | (go_keep;done)
   | (go_split_ands;exact ⟨y.only.cell (by assumption) (by simp),y.only.cell (by assumption) (by simp),y.only.cell (by assumption) (by simp),Only.trans (by assumption) y.only (by simp)⟩)
   | (go_split_ands;exact ⟨z.only.cell (by assumption) (by simp),z.only.cell (by assumption) (by simp),z.only.cell (by assumption) (by simp),Only.trans (by assumption) z.only (by simp)⟩)
   | (go_split_ands;exact ⟨h0.only.cell (by assumption) (by simp),h0.only.cell (by assumption) (by simp),h0.only.cell (by assumption) (by simp),Only.trans (by assumption) h0.only (by simp)⟩)
   | (exact aOk _ (by assumption)))
  (first
   | (refine jR rfl (.const (.slice none 0 0)) (.tmp 8) 23 rfl 3 i0 _ Tryz.underlying23 I0.out I1.out I2.out I3.out rfl ⟨k,0,none⟩ P.n c1 P.kinds (by rfl) LK.out (fun j u hu=>by rw [dI,Nat.zero_add];exact Only.cell hO (HN.out.1 j u hu) (by simp)) (by omega) (by omega) ?_;intro gk h4 wk y)
   | (refine jR rfl (.const (.slice none 0 0)) (.tmp 13) 23 rfl 3 i0 _ Tryz.underlying23 I0.out I1.out I2.out I3.out rfl ⟨c,0,none⟩ (P.n*16) c2 P.uU (by rfl) LC.out (fun j u hu=>by rw [dI,Nat.zero_add];exact Only.cell (hO.trans y.only (by simp)) (HN.out.2.1 j u hu) (by simp)) (by omega) (by omega) ?_;intro gc h5 wc z)
   | (refine jR rfl (.const (.slice none 0 0)) (.tmp 18) 50 rfl 4 j0 _ Tryz.underlying50 J0.out J1.out J2.out J3.out rfl ⟨l,0,none⟩ (P.n*16) c3 P.uF (by rfl) LL.out (fun j u hu=>by rw [dI,Nat.zero_add];exact Only.cell ((hO.trans y.only (by simp)).trans z.only (by simp)) (HN.out.2.2 j u hu) (by simp)) (by omega) (by omega) ?_;intro gl h3 wl h0))
 rename_i h2;clear h2;have H1:=aA y;have H2:=aA z;have H3:=aA h0;have HO:=aA hO;clear y z h0 hO;go_wp2_with fail;have o3:Only [] w wl:=((HO.out.trans H1.out.only (by simp)).trans H2.out.only (by simp)).trans H3.out.only (by simp);have x5:Only [] wk wl:=H2.out.only.trans H3.out.only (by simp);have d:Only [] wl (wl.alloc (.cells #[.slice (some ⟨gk,0,none⟩) P.n h4,.slice (some ⟨gc,0,none⟩) (P.n*16) h5,.slice (some ⟨gl,0,none⟩) (P.n*16) h3] 245)):=(Only.refl _ _).alloc _;have g1:=H1.out.ge;have g2:=H2.out.ge;have g3:=H3.out.ge;have l1:=H1.out.lt;have l2:=H2.out.lt;have l3:=H3.out.lt;have e0:=HO.out.size;have e1:=H1.out.only.size;have e2:=H2.out.only.size;have e3:=H3.out.only.size;have e4:w.drew.heap.size=w.heap.size:=rfl;refine hR.out _ _ ⟨wl.heap.size,gk,gc,gl,rfl,?_,o3.trans d (by simp),by omega,by omega,by omega,by omega⟩;refine eH.aOw ⟨_,h4,h5,h3,Row.new wl _ [_,_,_]⟩ ?_ ?_ ?_ (fun j v hv=>(x5.trans d (by simp)).cell (H1.out.cell j v hv) (by simp)) (fun j v hv=>(H3.out.only.trans d (by simp)).cell (H2.out.cell j v hv) (by simp)) (fun j v hv=>d.cell (H3.out.cell j v hv) (by simp)) ⟨by omega,by omega,by omega,by omega,by omega,by omega⟩ h1 x6
 ·obtain ⟨T,cs,r⟩:=H1.out.row;exact ⟨T,cs,(x5.trans d (by simp)).row r (by simp)⟩
 ·obtain ⟨T,cs,r⟩:=H2.out.row;exact ⟨T,cs,(H3.out.only.trans d (by simp)).row r (by simp)⟩
 obtain ⟨T,cs,r⟩:=H3.out.row;exact ⟨T,cs,d.row r (by simp)⟩
set_option maxHeartbeats 3200000
theorem aLW (w:World) (n:Int) (h:n<1\/24<n) :
  Calls prog 171 #[.int .i64 n] w (aO w (.tuple #[.pointer none,.int .i64 1])):=by
 refine aF fun R y=>?_
 by_cases z:n<1
 ·go_in;go_wp2;exact y.out _ _ ⟨rfl,rfl⟩
 have e:24<n:=by omega
 have d:decide (n<1)=false:=by simpa using z
 clear h;go_in;go_wp2;exact y.out _ _ ⟨rfl,rfl⟩
structure aNu (w wx:World) (n q c l:Nat):Prop where
 hq:∃ T,Row wx q T [.slice none 0 0,.slice (some ⟨c,0,none⟩) (n*16) (n*16),.slice (some ⟨l,0,none⟩) (n*16) (n*16)]
 rc:∃ T cs,Row wx c T cs
 rl:∃ T cs,Row wx l T cs
 cc:∀ x,x<n*16->wx.cell? ⟨c,x,none⟩=some (.int .i64 0)
 cl:∀ x,x<n*16->wx.cell? ⟨l,x,none⟩=some (.bool false)
 ne:q≠c/\q≠l/\c≠l
 ge:w.heap.size<=q/\w.heap.size<=c/\w.heap.size<=l
 lt:q<wx.heap.size/\c<wx.heap.size/\l<wx.heap.size
 o:Only [] w wx
theorem aAJ {v:Value} (h:v.cells=#[v]) {n x:Nat} (hx:x<n):(madeCells v.cells (n*1)).toList[x]?=some v:=by
 rw [h];simp [madeCells,hx,Nat.mod_one]
theorem aPZ (w:World) (n:Nat) (y d:Array Value) (hi:∀ x,x<n*16->y.toList[x]?=some (.int .i64 0)) (hb:∀ x,x<n*16->d.toList[x]?=some (.bool false)) (z e T3:Nat) :
  aNu w (((w.drew.alloc (.cells y z)).alloc (.cells d e)).alloc (.cells #[.slice none 0 0,.slice (some ⟨w.heap.size,0,none⟩) (n*16) (n*16),.slice (some ⟨w.heap.size+1,0,none⟩) (n*16) (n*16)] T3)) n (w.heap.size+1+1) w.heap.size (w.heap.size+1):=by
 have r1:Row (((w.drew.alloc (.cells y z)).alloc (.cells d e)).alloc (.cells #[.slice none 0 0,.slice (some ⟨w.heap.size,0,none⟩) (n*16) (n*16),.slice (some ⟨w.heap.size+1,0,none⟩) (n*16) (n*16)] T3)) w.heap.size z y.toList:=((Row.new w.drew z y.toList).alloc _).alloc _;have r2:=(Row.new (w.drew.alloc (.cells y z)) e d.toList).alloc (.cells #[.slice none 0 0,.slice (some ⟨w.heap.size,0,none⟩) (n*16) (n*16),.slice (some ⟨w.heap.size+1,0,none⟩) (n*16) (n*16)] T3);have e2:(w.drew.alloc (.cells y z)).heap.size=w.heap.size+1:=by simp
 rw [e2] at r2;have r3:=Row.new ((w.drew.alloc (.cells y z)).alloc (.cells d e)) T3 [.slice none 0 0,.slice (some ⟨w.heap.size,0,none⟩) (n*16) (n*16),.slice (some ⟨w.heap.size+1,0,none⟩) (n*16) (n*16)];have e3:((w.drew.alloc (.cells y z)).alloc (.cells d e)).heap.size=w.heap.size+1+1:=by simp
 rw [e3] at r3;exact ⟨⟨_,r3⟩,⟨_,_,r1⟩,⟨_,_,r2⟩,fun x hx=>r1.cell x (hi x hx),fun x hx=>r2.cell x (hb x hx),⟨by omega,by omega,by omega⟩,⟨by omega,by omega,by omega⟩,⟨r3.lt,r1.lt,r2.lt⟩,((((Only.refl [] w).drewN 1).alloc _).alloc _).alloc _⟩
theorem aPY (w:World) (n:Nat) (d y:Array Value) (hi:∀ x,x<n*16->d.toList[x]?=some (.int .i64 0)) (hb:∀ x,x<n*16->y.toList[x]?=some (.bool false)) (e z T3:Nat) :
  aNu w (((w.drew.alloc (.cells y z)).alloc (.cells d e)).alloc (.cells #[.slice none 0 0,.slice (some ⟨w.heap.size+1,0,none⟩) (n*16) (n*16),.slice (some ⟨w.heap.size,0,none⟩) (n*16) (n*16)] T3)) n (w.heap.size+1+1) (w.heap.size+1) w.heap.size:=by
 have r1:Row (((w.drew.alloc (.cells y z)).alloc (.cells d e)).alloc (.cells #[.slice none 0 0,.slice (some ⟨w.heap.size+1,0,none⟩) (n*16) (n*16),.slice (some ⟨w.heap.size,0,none⟩) (n*16) (n*16)] T3)) w.heap.size z y.toList:=((Row.new w.drew z y.toList).alloc _).alloc _;have r2:=(Row.new (w.drew.alloc (.cells y z)) e d.toList).alloc (.cells #[.slice none 0 0,.slice (some ⟨w.heap.size+1,0,none⟩) (n*16) (n*16),.slice (some ⟨w.heap.size,0,none⟩) (n*16) (n*16)] T3);have e2:(w.drew.alloc (.cells y z)).heap.size=w.heap.size+1:=by simp
 rw [e2] at r2;have r3:=Row.new ((w.drew.alloc (.cells y z)).alloc (.cells d e)) T3 [.slice none 0 0,.slice (some ⟨w.heap.size+1,0,none⟩) (n*16) (n*16),.slice (some ⟨w.heap.size,0,none⟩) (n*16) (n*16)];have e3:((w.drew.alloc (.cells y z)).alloc (.cells d e)).heap.size=w.heap.size+1+1:=by simp
 rw [e3] at r3;exact ⟨⟨_,r3⟩,⟨_,_,r2⟩,⟨_,_,r1⟩,fun x hx=>r2.cell x (hi x hx),fun x hx=>r1.cell x (hb x hx),⟨by omega,by omega,by omega⟩,⟨by omega,by omega,by omega⟩,⟨r3.lt,r2.lt,r1.lt⟩,((((Only.refl [] w).drewN 1).alloc _).alloc _).alloc _⟩
theorem aLV (w:World) (n:Nat) (h1:1<=n) (y9:n<=24) :
  Calls prog 171 #[.int .i64 n] w fun e w'=>
   ∃ q k c l,e=.returned (.tuple #[.pointer (some ⟨q,0,none⟩),.int .i64 0])/\eH w' q k c l (Pl.zero n)/\Only [] w w'/\w.heap.size<=q/\w.heap.size<=k/\w.heap.size<=c/\w.heap.size<=l:=by
 refine aF fun R hR=>?_;have a9:decide ((n:Int)<1)=false:=by simp;omega
 have b0:decide (24<(n:Int))=false:=by simp;omega
 obtain ⟨i0,z1,z8,y8,z9⟩:=info_parts aFP;obtain ⟨j0,z2,z5,y7,z7⟩:=info_parts aDd;obtain ⟨CI,y3⟩:∃ CI,CI=madeCells (Value.int .i64 0).cells (n*16*1):=⟨_,rfl⟩;obtain ⟨CB,y2⟩:∃ CB,CB=madeCells (Value.bool false).cells (n*16*1):=⟨_,rfl⟩;have FI:Hid (∀ x,x<n*16->CI.toList[x]?=some (.int .i64 0)):=fun x hx=>by rw [y3];exact aAJ rfl hx
 have FB:Hid (∀ x,x<n*16->CB.toList[x]?=some (.bool false)):=fun x hx=>by rw [y2];exact aAJ rfl hx
 have b1:IntKind.i64.wrap ((n:Int)*16)=(n:Int)*16:=IntWalk.i64_in _ (by omega);have eN:((n:Int)*16).toNat=n*16:=by omega
 have z4:∀ wx,(Instr.makeSlice 23 (.int .i64 ((n:Int)*16)) (.int .i64 ((n:Int)*16))).run prog wx=.ok (.slice (some ⟨wx.heap.size,0,none⟩) (n*16) (n*16)) (wx.alloc (.cells CI 3)):=fun wx=>by
  rw [run_makeSlice (P:=prog) (w:=wx) 23 3 i0 _ Tryz.underlying23 z1 z8 .i64 .i64 _ _ (by omega) (by omega) (by rw [y8];omega) (by rw [z9];omega) (by omega),eN,y8,y3]
 have z3:∀ wx,(Instr.makeSlice 50 (.int .i64 ((n:Int)*16)) (.int .i64 ((n:Int)*16))).run prog wx=.ok (.slice (some ⟨wx.heap.size,0,none⟩) (n*16) (n*16)) (wx.alloc (.cells CB 4)):=fun wx=>by
  rw [run_makeSlice (P:=prog) (w:=wx) 50 4 j0 _ Tryz.underlying50 z2 z5 .i64 .i64 _ _ (by omega) (by omega) (by rw [y7];omega) (by rw [z7];omega) (by omega),eN,y7,y2]
 clear z1 z8 y8 z9 z2 z5 y7 z7 y3 y2;go_in;go_wp2_with fail;go_region
 ·have hr:aNu w (((w.alloc (.cells CI 3)).alloc (.cells CB 4)).alloc (.cells #[.slice none 0 0,.slice (some ⟨w.heap.size,0,none⟩) (n*16) (n*16),.slice (some ⟨w.heap.size+1,0,none⟩) (n*16) (n*16)] 245)).drew n (w.heap.size+1+1) (w.heap.size) (w.heap.size+1):=aPZ w n CI CB FI.out FB.out _ _ _;generalize (((w.alloc (.cells CI 3)).alloc (.cells CB 4)).alloc (.cells #[.slice none 0 0,.slice (some ⟨w.heap.size,0,none⟩) (n*16) (n*16),.slice (some ⟨w.heap.size+1,0,none⟩) (n*16) (n*16)] 245)).drew=wx at*;generalize w.heap.size+1+1=q at*;generalize w.heap.size+1=l at*;obtain ⟨c,x4⟩:∃ x,x=w.heap.size:=⟨_,rfl⟩;rw [<-x4] at hr ⊢;clear x4 z4 z3;have HR:=aA hr;clear hr;go_wp2;go_loopw [5] (fun v wr=>∃ (i:Nat) (kv:Value),i<=n/\v=.int .i64 i/\(∃ T,Row wr q T [kv,.slice (some ⟨c,0,none⟩) (n*16) (n*16),.slice (some ⟨l,0,none⟩) (n*16) (n*16)])/\aK wr w.heap.size kv (List.replicate i (-1))/\
    (∀ b,kv.ownBlock=some b->b≠q/\b≠c/\b≠l)/\(∃ T cs,Row wr c T cs)/\(∃ T cs,Row wr l T cs)/\(∀ x,x<n*16->wr.cell? ⟨c,x,none⟩=some (.int .i64 0))/\(∀ x,x<n*16->wr.cell? ⟨l,x,none⟩=some (.bool false))/\Only [] w wr/\q<wr.heap.size/\c<wr.heap.size/\l<wr.heap.size) (fun v _=>n - (intOf v).toNat)
  case atStart=>exact ⟨0,_,by omega,rfl,HR.out.hq,aK.nil _ _,by simp [Value.ownBlock],HR.out.rc,HR.out.rl,HR.out.cc,HR.out.cl,HR.out.o,HR.out.lt.1,HR.out.lt.2.1,HR.out.lt.2.2⟩
  case round=>
   obtain ⟨i,kv,hi,rfl,hq,hk,hb,rc,rl,cc,cl,o,a5,a6,a7⟩:=hrel;obtain ⟨T,hq⟩:=hq;have z0:=hq.cell 0 rfl;have zf:=hq.free 0;have HK:=aA hk;have HB:=aA hb;have HQ:=aA hq;have RC:=aA rc;have RL:=aA rl;have CC:=aA cc;have CL:=aA cl;have HO:=aA o;clear hk hb hq rc rl cc cl o
   by_cases a3:i<n
   ·have x5:=HK.out.alloc (.cells #[.int .i64 (-1)] 3);have x9:=aA x5;clear x5;go_wp2_with (at_builtin;refine bJ rfl _ _ rfl w.heap.size kv _ rfl x9.out wr.heap.size (-1) rfl ?c1 ?c2 ?c3 ?c4)
    case c1=>exact (Row.new wr _ [_]).cell 0 rfl
    case c2=>simp;omega
    case c3=>have:=HO.out.size;simp;omega
    case c4=>
     intro v' w6 f6 o6 b6;have x2:Only kv.ownBlock.toList wr w6:=((Only.refl _ wr).alloc _).trans o6 (fun x hx=>.inl hx);have x6:∀ b,kv.ownBlock=some b->w.heap.size<=b/\b<wr.heap.size:=HK.out.own;have h6:=x2.row HQ.out (fun hx=>by
      cases z:kv.ownBlock with
      | none=>rw [z] at hx;simp at hx
      | some b=>rw [z] at hx;simp at hx;exact (HB.out b z).1 hx.symm)
     rcases f6.form with ⟨_,h9⟩|⟨g,cap,y6,_⟩
     ·simp at h9
     have z6:=h6.cell 0 rfl;have a8:=h6.free 0;have F6:=aA f6;have h0:=aA x2;have B6:=aA b6;have Q6:=aA h6;have y0:=aA x6;clear f6 o6 b6 x2 h6 x6;subst y6;go_wp2_with fail;have a4:=h0.out.size;have x3:∀ b,(Value.slice (some ⟨g,0,none⟩) (List.replicate i (-1:Int) ++ [-1]).length cap).ownBlock=some b->b≠q/\b≠c/\b≠l:=by
      intro b h3;rcases B6.out with h7|h7
      ·exact HB.out b (by rw [<-h7];exact h3)
      rw [h7] at h3;simp at h3;omega
     have h4:∀ x,x∈kv.ownBlock.toList->x≠c/\x≠l:=by
      intro x hx
      cases z:kv.ownBlock with
      | none=>rw [z] at hx;simp at hx
      | some b=>rw [z] at hx;simp at hx;subst hx;exact (HB.out _ z).2
     have d:=HR.out.ne;refine ⟨⟨i+1,_,by omega,by go_num,⟨T,Q6.out.set 0 _⟩,?_,x3,?_,?_,fun x hx=>?_,fun x hx=>?_,?_,by simp;omega,by simp;omega,by simp;omega⟩,by simp [intOf];omega⟩
     ·have h8:=F6.out;have x8:(List.replicate i (-1:Int) ++ [-1]).length=i+1:=by simp
      rw [x8] at h8;rw [show List.replicate (i+1) (-1:Int)=List.replicate i (-1) ++ [-1] from List.replicate_succ'];exact h8.only ((Only.refl [q] w6).set (p:=⟨q,0,none⟩) (by simp) _) (fun b h3=>by simpa using (x3 b h3).1)
     ·obtain ⟨T',cs,r⟩:=RC.out;exact ⟨T',cs,((h0.out.row r (fun hx=>(h4 _ hx).1 rfl))).other (by simpa using d.1) _⟩
     ·obtain ⟨T',cs,r⟩:=RL.out;exact ⟨T',cs,((h0.out.row r (fun hx=>(h4 _ hx).2 rfl))).other (by simpa using d.2.1) _⟩
     ·exact ((Only.refl [q] w6).set (by simp) _).cell (h0.out.cell (CC.out x hx) (fun h2=>(h4 _ h2).1 rfl)) (by simpa using d.1.symm)
     ·exact ((Only.refl [q] w6).set (by simp) _).cell (h0.out.cell (CL.out x hx) (fun h2=>(h4 _ h2).2 rfl)) (by simpa using d.2.1.symm)
     exact (HO.out.trans h0.out (fun x hx=>by
      cases z:kv.ownBlock with
      | none=>rw [z] at hx;simp at hx
      | some b=>rw [z] at hx;simp at hx;subst hx;exact .inr (y0.out _ z).1)).set (.inr HR.out.ge.1) _
   have y5:i=n:=by omega
   subst y5;go_wp2_with fail;rcases HK.out.form with ⟨_,h9⟩|⟨g,cap,h5,hg,a2,a1,y4⟩
   ·have:=congrArg List.length h9;simp at this;omega
   have x1:=HB.out g (by rw [h5];rfl);have d:=HR.out.ne;have x7:=HQ.out;rw [h5,List.length_replicate] at x7;refine hR.out _ _ ⟨q,g,c,l,rfl,⟨⟨T,cap,_,_,x7⟩,?_,RC.out,RL.out,fun x hx=>?_,fun x hx y hy=>?_,fun x hx y hy=>?_,⟨x1.1.symm,d.1,d.2.1,x1.2.1,x1.2.2,d.2.2⟩,h1,y9⟩,HO.out,HR.out.ge.1,hg,HR.out.ge.2.1,HR.out.ge.2.2⟩
   ·rcases HK.out.2 with ⟨e,_⟩|⟨g',a0,y1,e,_,hh,_⟩
    ·rw [h5] at e;cases e
    rw [h5] at e;simp only [Value.slice.injEq,Option.some.injEq,Addr.mk.injEq] at e;obtain ⟨⟨rfl,_⟩,_⟩:=e;exact ⟨_,y1.toList,by unfold Row;rw [hh]⟩
   ·have h2:x<i:=hx;have:=y4 x (by simp;exact h2);rw [this];simp [gI,h2,Pl.zero,Pg.zero]
   ·exact CC.out _ (by show _<i*16;have:x<i:=hx;omega)
   exact CL.out _ (by show _<i*16;have:x<i:=hx;omega)
 have hr:aNu w (((w.alloc (.cells CB 4)).alloc (.cells CI 3)).alloc (.cells #[.slice none 0 0,.slice (some ⟨w.heap.size+1,0,none⟩) (n*16) (n*16),.slice (some ⟨w.heap.size,0,none⟩) (n*16) (n*16)] 245)).drew n (w.heap.size+1+1) (w.heap.size+1) (w.heap.size):=aPY w n CI CB FI.out FB.out _ _ _;generalize (((w.alloc (.cells CB 4)).alloc (.cells CI 3)).alloc (.cells #[.slice none 0 0,.slice (some ⟨w.heap.size+1,0,none⟩) (n*16) (n*16),.slice (some ⟨w.heap.size,0,none⟩) (n*16) (n*16)] 245)).drew=wx at*;generalize w.heap.size+1+1=q at*;generalize w.heap.size+1=c at*;obtain ⟨l,x4⟩:∃ x,x=w.heap.size:=⟨_,rfl⟩;rw [<-x4] at hr ⊢;clear x4 z4 z3;have HR:=aA hr;clear hr;go_wp2;go_loopw [5] (fun v wr=>∃ (i:Nat) (kv:Value),i<=n/\v=.int .i64 i/\(∃ T,Row wr q T [kv,.slice (some ⟨c,0,none⟩) (n*16) (n*16),.slice (some ⟨l,0,none⟩) (n*16) (n*16)])/\aK wr w.heap.size kv (List.replicate i (-1))/\
   (∀ b,kv.ownBlock=some b->b≠q/\b≠c/\b≠l)/\(∃ T cs,Row wr c T cs)/\(∃ T cs,Row wr l T cs)/\(∀ x,x<n*16->wr.cell? ⟨c,x,none⟩=some (.int .i64 0))/\(∀ x,x<n*16->wr.cell? ⟨l,x,none⟩=some (.bool false))/\Only [] w wr/\q<wr.heap.size/\c<wr.heap.size/\l<wr.heap.size) (fun v _=>n - (intOf v).toNat)
 case atStart=>exact ⟨0,_,by omega,rfl,HR.out.hq,aK.nil _ _,by simp [Value.ownBlock],HR.out.rc,HR.out.rl,HR.out.cc,HR.out.cl,HR.out.o,HR.out.lt.1,HR.out.lt.2.1,HR.out.lt.2.2⟩
 case round=>
  obtain ⟨i,kv,hi,rfl,hq,hk,hb,rc,rl,cc,cl,o,a5,a6,a7⟩:=hrel;obtain ⟨T,hq⟩:=hq;have z0:=hq.cell 0 rfl;have zf:=hq.free 0;have HK:=aA hk;have HB:=aA hb;have HQ:=aA hq;have RC:=aA rc;have RL:=aA rl;have CC:=aA cc;have CL:=aA cl;have HO:=aA o;clear hk hb hq rc rl cc cl o
  by_cases a3:i<n
  ·have x5:=HK.out.alloc (.cells #[.int .i64 (-1)] 3);have x9:=aA x5;clear x5;go_wp2_with (at_builtin;refine bJ rfl _ _ rfl w.heap.size kv _ rfl x9.out wr.heap.size (-1) rfl ?c1 ?c2 ?c3 ?c4)
   case c1=>exact (Row.new wr _ [_]).cell 0 rfl
   case c2=>simp;omega
   case c3=>have:=HO.out.size;simp;omega
   case c4=>
    intro v' w6 f6 o6 b6;have x2:Only kv.ownBlock.toList wr w6:=((Only.refl _ wr).alloc _).trans o6 (fun x hx=>.inl hx);have x6:∀ b,kv.ownBlock=some b->w.heap.size<=b/\b<wr.heap.size:=HK.out.own;have h6:=x2.row HQ.out (fun hx=>by
     cases z:kv.ownBlock with
     | none=>rw [z] at hx;simp at hx
     | some b=>rw [z] at hx;simp at hx;exact (HB.out b z).1 hx.symm)
    rcases f6.form with ⟨_,h9⟩|⟨g,cap,y6,_⟩
    ·simp at h9
    have z6:=h6.cell 0 rfl;have a8:=h6.free 0;have F6:=aA f6;have h0:=aA x2;have B6:=aA b6;have Q6:=aA h6;have y0:=aA x6;clear f6 o6 b6 x2 h6 x6;subst y6;go_wp2_with fail;have a4:=h0.out.size;have x3:∀ b,(Value.slice (some ⟨g,0,none⟩) (List.replicate i (-1:Int) ++ [-1]).length cap).ownBlock=some b->b≠q/\b≠c/\b≠l:=by
     intro b h3;rcases B6.out with h7|h7
     ·exact HB.out b (by rw [<-h7];exact h3)
     rw [h7] at h3;simp at h3;omega
    have h4:∀ x,x∈kv.ownBlock.toList->x≠c/\x≠l:=by
     intro x hx
     cases z:kv.ownBlock with
     | none=>rw [z] at hx;simp at hx
     | some b=>rw [z] at hx;simp at hx;subst hx;exact (HB.out _ z).2
    have d:=HR.out.ne;refine ⟨⟨i+1,_,by omega,by go_num,⟨T,Q6.out.set 0 _⟩,?_,x3,?_,?_,fun x hx=>?_,fun x hx=>?_,?_,by simp;omega,by simp;omega,by simp;omega⟩,by simp [intOf];omega⟩
    ·have h8:=F6.out;have x8:(List.replicate i (-1:Int) ++ [-1]).length=i+1:=by simp
     rw [x8] at h8;rw [show List.replicate (i+1) (-1:Int)=List.replicate i (-1) ++ [-1] from List.replicate_succ'];exact h8.only ((Only.refl [q] w6).set (p:=⟨q,0,none⟩) (by simp) _) (fun b h3=>by simpa using (x3 b h3).1)
    ·obtain ⟨T',cs,r⟩:=RC.out;exact ⟨T',cs,((h0.out.row r (fun hx=>(h4 _ hx).1 rfl))).other (by simpa using d.1) _⟩
    ·obtain ⟨T',cs,r⟩:=RL.out;exact ⟨T',cs,((h0.out.row r (fun hx=>(h4 _ hx).2 rfl))).other (by simpa using d.2.1) _⟩
    ·exact ((Only.refl [q] w6).set (by simp) _).cell (h0.out.cell (CC.out x hx) (fun h2=>(h4 _ h2).1 rfl)) (by simpa using d.1.symm)
    ·exact ((Only.refl [q] w6).set (by simp) _).cell (h0.out.cell (CL.out x hx) (fun h2=>(h4 _ h2).2 rfl)) (by simpa using d.2.1.symm)
    exact (HO.out.trans h0.out (fun x hx=>by
     cases z:kv.ownBlock with
     | none=>rw [z] at hx;simp at hx
     | some b=>rw [z] at hx;simp at hx;subst hx;exact .inr (y0.out _ z).1)).set (.inr HR.out.ge.1) _
  have y5:i=n:=by omega
  subst y5;go_wp2_with fail;rcases HK.out.form with ⟨_,h9⟩|⟨g,cap,h5,hg,a2,a1,y4⟩
  ·have:=congrArg List.length h9;simp at this;omega
  have x1:=HB.out g (by rw [h5];rfl);have d:=HR.out.ne;have x7:=HQ.out;rw [h5,List.length_replicate] at x7;refine hR.out _ _ ⟨q,g,c,l,rfl,⟨⟨T,cap,_,_,x7⟩,?_,RC.out,RL.out,fun x hx=>?_,fun x hx y hy=>?_,fun x hx y hy=>?_,⟨x1.1.symm,d.1,d.2.1,x1.2.1,x1.2.2,d.2.2⟩,h1,y9⟩,HO.out,HR.out.ge.1,hg,HR.out.ge.2.1,HR.out.ge.2.2⟩
  ·rcases HK.out.2 with ⟨e,_⟩|⟨g',a0,y1,e,_,hh,_⟩
   ·rw [h5] at e;cases e
   rw [h5] at e;simp only [Value.slice.injEq,Option.some.injEq,Addr.mk.injEq] at e;obtain ⟨⟨rfl,_⟩,_⟩:=e;exact ⟨_,y1.toList,by unfold Row;rw [hh]⟩
  ·have h2:x<i:=hx;have:=y4 x (by simp;exact h2);rw [this];simp [gI,h2,Pl.zero,Pg.zero]
  ·exact CC.out _ (by show _<i*16;have:x<i:=hx;omega)
  exact CL.out _ (by show _<i*16;have:x<i:=hx;omega)
end Go.Proofs.YthflghdaejbdkaaGreat
