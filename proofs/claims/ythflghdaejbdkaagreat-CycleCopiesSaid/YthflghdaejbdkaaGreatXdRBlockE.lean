/- Lemmas of this claim. -/
import Derived.Test.YthflghdaejbdkaaGreatXdRBlock
import Derived.Test.YthflghdaejbdkaaGreatXdBModel
import Derived.Test.YthflghdaejbdkaaGreatXdLib
import Derived.Test.YthflghdaejbdkaaGreatXdInts
import Derived.OwnWalk
import Derived.Deep.DeepCutAuto
import Derived.Deep.CutBlock
namespace Go.Proofs.YthflghdaejbdkaaGreat
open _root_.Go.Proofs.Tryz (prog)
open Go.RowKit
set_option maxHeartbeats 1600000
set_option maxRecDepth 100000
set_option linter.unusedVariables false
theorem aFM (w:World) (q k c l:Nat) (P:Pl) (h:eF w q k c l P) (i:Int) :
  Calls prog 227 #[.pointer (some ⟨q,0,none⟩),.int .i64 i] w (aK w (.tuple #[.int .i64 (P.class i).1,.int .i64 (P.class i).2])):=by
 refine aF fun R hR=>?_;obtain ⟨c1,c2,c3,z0,z1,z2,_⟩:=h.facts;have h24:=h.n24
 by_cases h0:i<0
 ·rw [show P.class i=(0,1) by unfold Pl.class;rw [if_pos (.inl h0)]] at hR;have h0':decide (i<0)=true:=by simpa using h0
  go_in;go_wp2_with fail;exact hR.out _ _ ⟨rfl,rfl⟩
 have h0':decide (i<0)=false:=by simpa using h0
 obtain ⟨I,rfl⟩:∃ I:Nat,i=I:=⟨i.toNat,by omega⟩
 by_cases h1:P.n<=I
 ·rw [show P.class (I:Int)=(0,1) by unfold Pl.class;rw [if_pos (.inr (by omega))]] at hR;go_in;go_wp2_with fail;exact hR.out _ _ ⟨rfl,rfl⟩
 have h1':decide (P.n<=I)=false:=by simpa using h1
 have hlt:I<P.n:=by omega
 have hpc:=h.kind I hlt;rw [show P.class (I:Int)=((P.pg I).cls,0) by unfold Pl.class;rw [if_neg (by omega)];simp] at hR;have H:=aA h;clear h h1;go_in;go_wp2_with fail;exact hR.out _ _ ⟨rfl,rfl⟩
theorem aLt {P:Pl} {i:Nat} (hok:(P.pg i).ok) (hC:IsC (P.pg i).cls):decide (0<=aEX P i)=(P.pg i).partly (P.pg i).cls:=by
 cases hp:(P.pg i).partly (P.pg i).cls with
 | true=>rw [(aBa hok hC hp).1];rw [decide_eq_true_eq];omega
 | false=>rw [aBb hok hC rfl hp];rfl
theorem zT (w:World) (q k c l:Nat) (P:Pl) (h:eF w q k c l P) (i:Nat) (hi:i<P.n) (hok:(P.pg i).ok) (cl:Int) (hC:IsC cl) :
  Calls prog 271 #[.pointer (some ⟨q,0,none⟩),.int .i64 i,.int .i64 cl] w (aK w (.bool ((P.pg i).partly cl))):=by
 refine aF fun R hR=>?_;obtain ⟨c1,c2,c3,z0,z1,z2,_⟩:=h.facts;have h24:=h.n24;have hkind:=h.kind i hi
 cases he:((P.pg i).cls == cl)
 ·have hp:Hid ((P.pg i).partly cl=false):=by show _=_;unfold Pg.partly;rw [he];rfl
  go_in;go_wp2_with fail;exact hR.out _ _ ⟨by rw [hp.out];rfl,rfl⟩
 have he':(P.pg i).cls=cl:=by simpa using he
 have hg:=rY w q k c l P h i hi (by rw [he'];exact hC);have hgv:Hid (decide (0<=aEX P i)=(P.pg i).partly cl):=by have:=aLt hok (by rw [he'];exact hC);rw [he'] at this;exact this
 clear he';go_in;go_wp2_with fail;refine hg.mono ?_;rintro e _ ⟨rfl,rfl⟩;go_wp2_with fail;exact hR.out _ _ ⟨by rw [<-hgv.out];rfl,rfl⟩
set_option maxHeartbeats 3200000
def aBM (fr tq:Option Nat):Value:=.tuple #[.int .i64 (aMW fr),.int .i64 (aMW tq),.bool tq.isSome]
theorem aEH (w:World) (q k c l:Nat) (P:Pl) (h:eF w q k c l P) (hok:P.ok) (cl:Int) (hC:IsC cl) :
  Calls prog 251 #[.pointer (some ⟨q,0,none⟩),.int .i64 cl] w (aK w (aBM (P.frm cl P.n) (P.too cl (P.frm cl P.n) P.n))):=by
 refine aF fun R hR=>?_;obtain ⟨c1,c2,c3,z0,z1,z2,_⟩:=h.facts;have h24:=h.n24;have H:=aA h;have HOK:=aA hok;clear h hok;go_in;go_wp2_with fail;go_loop [7,8] (fun s2 s16=>∃ (i:Nat) (fr:Option Nat),i<=P.n/\s16=.int .i64 i/\Hid (P.frm cl i=fr)/\IsO s2 fr) (fun _ s16=>P.n - (intOf s16).toNat)
 case atStart=>exact ⟨0,none,by omega,rfl,rfl,rfl⟩
 case round=>
  obtain ⟨i,fr,hi,rfl,hfr,ho⟩:=hrel
  by_cases hlt2:i<P.n
  ·have hq1:=zT w q k c l P H.out i hlt2 (HOK.out i hlt2) cl hC;have hq2:=mG w q k c l P H.out i hlt2 (HOK.out i hlt2).w
   cases hp:(P.pg i).partly cl with
   | false=>
    rw [hp] at hq1;have hN:=aA (aFa hfr.out hp);clear hp;go_wp2_with fail;refine hq1.mono ?_;rintro e _ ⟨rfl,rfl⟩;go_wp2_with fail;go_round
    case rel=>exact ⟨i+1,fr,by omega,by go_num,hN,ho⟩
    case measure=>simp [intOf];omega
   | true=>
    rw [hp] at hq1;have HP:=aA hp;clear hp
    cases fr with
    | none=>
     obtain rfl:_=Value.int .i64 (-1):=ho;have hN:=aA (aCQ hfr.out HP.out);go_wp2_with fail;refine hq1.mono ?_;rintro e _ ⟨rfl,rfl⟩;go_wp2_with fail;go_round
     case rel=>exact ⟨i+1,some i,by omega,by go_num,hN,rfl⟩
     case measure=>simp [intOf];omega
    | some f=>
     obtain rfl:_=Value.int .i64 (f:Int):=ho;have hf:=(Pl.aBd hfr.out).1;have hq3:=mG w q k c l P H.out f (by omega) (HOK.out f (by omega)).w;have hf0:decide ((f:Int)<0)=false:=by simp
     have c8:=(P.pg i).count_le;have d8:=(P.pg f).count_le
     by_cases hle:(P.pg i).count<=(P.pg f).count
     ·have hN:=aA (aFc hfr.out HP.out hle);go_wp2_with fail;refine hq1.mono ?_;rintro e _ ⟨rfl,rfl⟩;go_wp2_with fail;refine hq2.mono ?_;rintro e _ ⟨rfl,rfl⟩;go_wp2_with fail;refine hq3.mono ?_;rintro e _ ⟨rfl,rfl⟩;go_wp2_with fail;go_round
      case rel=>exact ⟨i+1,some i,by omega,by go_num,hN,rfl⟩
      case measure=>simp [intOf];omega
     have hN:=aA (aFb hfr.out hle);have hle2:decide ((P.pg i).count<=(P.pg f).count)=false:=by simpa using hle
     clear hle;go_wp2_with fail;refine hq1.mono ?_;rintro e _ ⟨rfl,rfl⟩;go_wp2_with fail;refine hq2.mono ?_;rintro e _ ⟨rfl,rfl⟩;go_wp2_with fail;refine hq3.mono ?_;rintro e _ ⟨rfl,rfl⟩;go_wp2_with fail;go_round
     case rel=>exact ⟨i+1,some f,by omega,by go_num,hN,rfl⟩
     case measure=>simp [intOf];omega
  obtain rfl:i=P.n:=by omega
  rw [hfr.out] at hR;go_wp2_with fail;go_loop [9,10] (fun s3 s55=>∃ (j:Nat) (tq:Option Nat),j<=P.n/\s55=.int .i64 j/\Hid (P.too cl fr j=tq)/\IsO s3 tq) (fun _ s55=>P.n - (intOf s55).toNat)
  case atStart=>exact ⟨0,none,by omega,rfl,rfl,rfl⟩
  case round=>
   clear hlt2;obtain ⟨j,tq,hj,rfl,hto,ho2⟩:=hrel
   by_cases hlt3:j<P.n
   ·have hq1:=zT w q k c l P H.out j hlt3 (HOK.out j hlt3) cl hC;have hq2:=mG w q k c l P H.out j hlt3 (HOK.out j hlt3).w
    cases fr with
    | none=>
     obtain rfl:_=Value.int .i64 (-1):=ho;have hp:=Pl.vP hfr.out j hlt3;have hN:=aA (uZ hto.out hp);have hb:((j:Int) != -1)=true:=by rw [bne_iff_ne];omega
     rw [hp] at hq1;clear hp;go_wp2_with fail;refine hq1.mono ?_;rintro e _ ⟨rfl,rfl⟩;go_wp2_with fail;go_round
     case rel=>exact ⟨j+1,tq,by omega,by go_num,hN,ho2⟩
     case measure=>simp [intOf];omega
    | some f=>
     obtain rfl:_=Value.int .i64 (f:Int):=ho
     by_cases hjf:j=f
     ·have hN:=aA (aEx hto.out (by rw [hjf]));have hb:((j:Int) != (f:Int))=false:=by rw [bne_eq_false_iff_eq];omega
      clear hjf;go_wp2_with fail;go_round
      case rel=>exact ⟨j+1,tq,by omega,by go_num,hN,ho2⟩
      case measure=>simp [intOf];omega
     have hne:some j≠some f:=by simpa using hjf
     have HNE:=aA hne;have hb:((j:Int) != (f:Int))=true:=by rw [bne_iff_ne];omega
     clear hjf hne
     cases hp:(P.pg j).partly cl with
     | false=>
      rw [hp] at hq1;have hN:=aA (uZ hto.out hp);clear hp;go_wp2_with fail;refine hq1.mono ?_;rintro e _ ⟨rfl,rfl⟩;go_wp2_with fail;go_round
      case rel=>exact ⟨j+1,tq,by omega,by go_num,hN,ho2⟩
      case measure=>simp [intOf];omega
     | true=>
      rw [hp] at hq1;have HP:=aA hp;clear hp
      cases tq with
      | none=>
       obtain rfl:_=Value.int .i64 (-1):=ho2;have hN:=aA (aBA hto.out HNE.out HP.out);go_wp2_with fail;refine hq1.mono ?_;rintro e _ ⟨rfl,rfl⟩;go_wp2_with fail;go_round
       case rel=>exact ⟨j+1,some j,by omega,by go_num,hN,rfl⟩
       case measure=>simp [intOf];omega
      | some t=>
       obtain rfl:_=Value.int .i64 (t:Int):=ho2;have ht:=(Pl.nJ hto.out).1;have hq3:=mG w q k c l P H.out t (by omega) (HOK.out t (by omega)).w;have hf0:decide ((t:Int)<0)=false:=by simp
       have c8:=(P.pg j).count_le;have d8:=(P.pg t).count_le
       by_cases hle:(P.pg t).count<(P.pg j).count
       ·have hN:=aA (aEy hto.out HNE.out HP.out hle);go_wp2_with fail;refine hq1.mono ?_;rintro e _ ⟨rfl,rfl⟩;go_wp2_with fail;refine hq2.mono ?_;rintro e _ ⟨rfl,rfl⟩;go_wp2_with fail;refine hq3.mono ?_;rintro e _ ⟨rfl,rfl⟩;go_wp2_with fail;go_round
        case rel=>exact ⟨j+1,some j,by omega,by go_num,hN,rfl⟩
        case measure=>simp [intOf];omega
       have hN:=aA (aEz hto.out hle);have hle2:decide ((P.pg t).count<(P.pg j).count)=false:=by simpa using hle
       clear hle;go_wp2_with fail;refine hq1.mono ?_;rintro e _ ⟨rfl,rfl⟩;go_wp2_with fail;refine hq2.mono ?_;rintro e _ ⟨rfl,rfl⟩;go_wp2_with fail;refine hq3.mono ?_;rintro e _ ⟨rfl,rfl⟩;go_wp2_with fail;go_round
       case rel=>exact ⟨j+1,some t,by omega,by go_num,hN,rfl⟩
       case measure=>simp [intOf];omega
   obtain rfl:j=P.n:=by omega
   rw [hto.out] at hR;have hfv:∀ o:Option Nat,∀ v,IsO v o->v=.int .i64 (aMW o):=by
    intro o v hv
    cases o with
    | none=>exact hv
    | some f=>exact hv
   obtain rfl:=hfv fr _ ho
   cases tq with
   | none=>
    obtain rfl:_=Value.int .i64 (-1):=ho2;go_wp2_with fail;go_ret3;exact hR.out _ _ ⟨rfl,rfl⟩
   | some t=>
    obtain rfl:_=Value.int .i64 (t:Int):=ho2;have ht0:decide (0<=(t:Int))=true:=by simp
    clear hfv;go_wp2_with fail;go_ret3;exact hR.out _ _ ⟨rfl,rfl⟩
set_option maxHeartbeats 6400000
theorem aEK {P:Pl} {c:Int}:P.dY c=match P.frm c P.n,P.too c (P.frm c P.n) P.n with|some f,some t=>some (f,t)|_,_=>none:=rfl
theorem zU {P:Pl} {c:Int} (h:P.dY c=none):(P.too c (P.frm c P.n) P.n).isSome=false:=by
 rw [aEK] at h
 cases hf:P.frm c P.n with
 | none=>
  cases ht:P.too c none P.n with
  | none=>rfl
  | some t=>
   exfalso;have h1:=Pl.nJ ht;rw [Pl.vP hf t h1.1] at h1;exact absurd h1.2.2 (by simp)
 | some f=>
  rw [hf] at h
  cases ht:P.too c (some f) P.n with
  | none=>rfl
  | some t=>rw [ht] at h;cases h
theorem aFJ {P:Pl} {c:Int} {i j:Nat} (h:P.dY c=some (i,j)):P.frm c P.n=some i/\P.too c (P.frm c P.n) P.n=some j:=by
 rw [aEK] at h
 cases hf:P.frm c P.n with
 | none=>rw [hf] at h;simp at h
 | some f=>
  rw [hf] at h
  cases ht:P.too c (some f) P.n with
  | none=>rw [ht] at h;simp at h
  | some t=>rw [ht] at h;simp at h;rw [h.1,h.2] at*;exact ⟨rfl,rfl⟩
theorem Pl.aFX (P:Pl):(P.pair=none/\P.dY 0=none/\P.dY 1=none/\P.dY 2=none)\/∃ c i j,c<=2/\(∀ d:Nat,d<c->P.dY d=none)/\P.dY (c:Nat)=some (i,j)/\P.pair=some (i,j):=by
 cases h0:P.dY 0 with
 | some x=>
  obtain ⟨i,j⟩:=x;exact .inr ⟨0,i,j,by omega,fun d hd=>by omega,h0,by unfold Pl.pair;rw [h0];rfl⟩
 | none=>
  cases h1:P.dY 1 with
  | some x=>
   obtain ⟨i,j⟩:=x;exact .inr ⟨1,i,j,by omega,fun d hd=>by obtain rfl:d=0:=(by omega);exact h0,h1,by unfold Pl.pair;rw [h0,h1];rfl⟩
  | none=>
   cases h2:P.dY 2 with
   | some x=>
    obtain ⟨i,j⟩:=x;refine .inr ⟨2,i,j,by omega,fun d hd=>?_,h2,by unfold Pl.pair;rw [h0,h1,h2];rfl⟩;have h01:d=0\/d=1:=by omega
    rcases h01 with rfl|rfl
    ·exact h0
    exact h1
   | none=>exact .inl ⟨by unfold Pl.pair;rw [h0,h1,h2];rfl,rfl,rfl,rfl⟩
theorem aFL (w:World) (q k c l:Nat) (P:Pl) (h:eF w q k c l P) (hok:P.ok) (hp:P.pair=none) :
  Calls prog 226 #[.pointer (some ⟨q,0,none⟩)] w (aK w (.tuple #[.int .i64 0,.int .i64 0,.int .i64 3])):=by
 refine aF fun R hR=>?_;have hn:Hid (∀ d:Nat,d<=2->P.dY d=none):=fun d hd=>Pl.aIh hp (by unfold IsC;omega);have hpr:Hid (∀ (d:Nat),d<=2->Calls prog 251 #[.pointer (some ⟨q,0,none⟩),.int .i64 (d:Int)] w (aK w (aBM (P.frm d P.n) (P.too d (P.frm d P.n) P.n)))):=fun d hd=>aEH w q k c l P h hok d (by unfold IsC;omega);clear hp;go_in;go_wp2_with fail;go_loop [5] (fun v=>∃ d:Nat,d<=3/\v=.int .i64 d) (fun v=>3 - (intOf v).toNat)
 case atStart=>exact ⟨0,by omega,rfl⟩
 case round=>
  obtain ⟨d,hd,rfl⟩:=hrel
  by_cases hlt:d<=2
  ·have hc:=hpr.out d hlt;unfold aBM at hc;rw [zU (hn.out d hlt)] at hc;generalize aMW (P.frm d P.n)=v1 at hc;generalize aMW (P.too d (P.frm d P.n) P.n)=v2 at hc;go_wp2_with fail;refine hc.mono ?_;rintro e _ ⟨rfl,rfl⟩;go_wp2_with fail;go_round
   case rel=>exact ⟨d+1,by omega,by go_num⟩
   case measure=>simp [intOf];omega
  obtain rfl:d=3:=by omega
  go_wp2_with fail;go_ret3;exact hR.out _ _ ⟨rfl,rfl⟩
theorem aDS {p:Pg} (hC:IsC p.cls) {x:Nat} (hx:x<p.top p.cls*bsz p.cls) (h16:x<16):p.live x=false:=by
 cases hl:p.live x with
 | false=>rfl
 | true=>
  obtain ⟨h1,h2⟩:=(Pg.aAS hC x).1 hl;have h3:=(dN p.used (bpt p.cls)).1 (x / bsz p.cls) (by
   show x / bsz p.cls<p.top p.cls;have hf:=hC.facts;rcases hf with ⟨e,_⟩|⟨e,_⟩|⟨e,_⟩<;>(rw [e] at hx ⊢;omega))
  rw [h2] at h3
  cases h3
theorem aHy {p:Pg} {cl:Int} {lg ml z y:Nat} (hz:bsz cl=z) (hml:lg*z=ml) (hy:y<z) (f:Nat->Int) :
  ({ p.take cl lg (fun x=>if x<y then f x else 0) with cell:=up (p.take cl lg (fun x=>if x<y then f x else 0)).cell (ml+y) (f y) }:Pg)=p.take cl lg (fun x=>if x<y+1 then f x else 0):=by
 unfold Pg.take;simp only [hz,hml];congr 1;funext j;unfold up
 by_cases e1:j=ml+y
 ·subst e1;rw [if_pos rfl,if_pos (by omega),if_pos (by omega)];congr 1;omega
 rw [if_neg e1];show (if ml<=j/\j<ml+z then (if j - ml<y then f (j - ml) else 0) else p.cell j)=_
 by_cases e2:ml<=j/\j<ml+z
 ·rw [if_pos e2,if_pos e2]
  by_cases e3:j - ml<y
  ·rw [if_pos e3,if_pos (by omega)]
  rw [if_neg e3,if_neg (by omega)]
 rw [if_neg e2,if_neg e2]
theorem aKi {p:Pg} {cl:Int} {lg z:Nat} (hz:bsz cl=z) (f:Nat->Int):p.take cl lg (fun x=>if x<z then f x else 0)=p.take cl lg f:=by
 unfold Pg.take;simp only [hz];congr 1;funext j
 by_cases e2:lg*z<=j/\j<lg*z+z
 ·rw [if_pos e2,if_pos e2,if_pos (by omega)]
 rw [if_neg e2,if_neg e2]
theorem aFK (w:World) (q k c l:Nat) (P:Pl) (h:eF w q k c l P) (hok:P.ok) (i j:Nat) (hp:P.pair=some (i,j)) :
  Calls prog 226 #[.pointer (some ⟨q,0,none⟩)] w fun e w'=>
   e=.returned (.tuple #[.int .i64 ((16*i+(P.pg i).top (P.pg i).cls*bsz (P.pg i).cls:Nat):Int),.int .i64 ((16*j+(P.pg j).gap (P.pg j).cls*bsz (P.pg i).cls:Nat):Int),.int .i64 0])/\eF w' q k c l (P.moved i j)/\Only [k,c,l] w w':=by
 refine aF fun R hR=>?_;have hP:=Pl.iW hp;obtain ⟨cc,hcc,hno,hpc⟩:∃ cc:Nat,cc<=2/\(∀ d:Nat,d<cc->P.dY d=none)/\P.dY cc=some (i,j):=by
  rcases P.aFX with ⟨h0,_⟩|⟨cc,i',j',h1,h2,h3,h4⟩
  ·rw [h0] at hp;cases hp
  rw [hp] at h4;cases h4;exact ⟨cc,h1,h2,h3⟩
 have hcls:(P.pg i).cls=(cc:Int):=(Pl.nP (by unfold IsC;omega) hpc).2;have hC:IsC (cc:Int):=by unfold IsC;omega
 have hCi:IsC (P.pg i).cls:=by rw [hcls];exact hC
 have hsame:(P.pg j).cls=(cc:Int):=hP.same.trans hcls;have hne1:(P.pg i).cls≠-1:=by rw [hcls];omega
 have htop:=(hok i hP.hi).top hne1;have hpj:(P.pg j).partly (cc:Int)=true:=by rw [<-hcls];exact hP.pj
 have lT:=(hok j hP.hj).gap hC hpj;have hmv:Hid (P.moved i j=(P.set j ((P.pg j).take (P.pg i).cls ((P.pg j).gap (P.pg j).cls) fun x=>(P.pg i).cell ((P.pg i).top (P.pg i).cls*bsz (P.pg i).cls+x))).set i ((P.pg i).release ((P.pg i).top (P.pg i).cls))):=rfl;rw [hcls,hsame] at hmv;rw [hcls,hsame] at hR;rw [hcls] at htop;have hi:=hP.hi;have hj:=hP.hj;have hij:=hP.ne;have h24:=h.n24;have hbk:=hC.blk htop.1;have hbl:=hC.blk lT.1;have hsz:=hC.sz;have hlb:Hid (∀ x,x<(P.pg i).top (cc:Int)*bsz (cc:Int)->(P.pg i).live x=false):=fun x hx=>aDS hCi (by rw [hcls];exact hx) (by omega);have hla:Hid ((P.pg i).live ((P.pg i).top (cc:Int)*bsz (cc:Int))=true):=by
  have:=Pg.sN hCi ((P.pg i).top (cc:Int));rw [hcls] at this;show _=_;rw [this];exact htop.2
 have hpr:Hid (∀ (d:Nat),d<=2->Calls prog 251 #[.pointer (some ⟨q,0,none⟩),.int .i64 (d:Int)] w (aK w (aBM (P.frm d P.n) (P.too d (P.frm d P.n) P.n)))):=fun d hd=>aEH w q k c l P h hok d (by unfold IsC;omega);have aSq:Hid (Calls prog 251 #[.pointer (some ⟨q,0,none⟩),.int .i64 (cc:Int)] w (aK w (.tuple #[.int .i64 (i:Int),.int .i64 (j:Int),.bool true]))):=by
  have h1:=hpr.out cc hcc;obtain ⟨e1,e2⟩:=aFJ hpc;rw [e2,e1] at h1;exact h1
 have hgp:=rY w q k c l P h j hj (by rw [hsame];exact hC);obtain ⟨hgv,_⟩:=aBa (hok j hj) hC hpj;have hcut:=fun wx=>yO wx (cc:Int) hC;have htk:Hid (∀ a:Int,a=((j*16+(P.pg j).gap (cc:Int)*bsz (cc:Int):Nat):Int)->Calls prog 253 #[.pointer (some ⟨q,0,none⟩),.int .i64 a,.int .i64 (bsz (cc:Int):Nat)] w fun e w'=>e=.returned (.tuple #[])/\eF w' q k c l (P.set j ((P.pg j).take (cc:Int) ((P.pg j).gap (cc:Int)) fun _=>0))/\Only [c,l] w w'):=
  fun a ha=>aDr w q k c l P h j hj (cc:Int) hC hsame ((P.pg j).gap (cc:Int)) _ _ lT.1 rfl rfl a ha
 have hok2:Hid (∀ f,(P.set j ((P.pg j).take (cc:Int) ((P.pg j).gap (cc:Int)) f)).ok):=fun f=>hok.set ((hok j hj).take hC (.inr hsame) lT.1 f);obtain ⟨tk,aRr⟩:∃ x,x=(P.pg i).top (cc:Int):=⟨_,rfl⟩;obtain ⟨lg,aRx⟩:∃ x,x=(P.pg j).gap (cc:Int):=⟨_,rfl⟩;obtain ⟨z,hz⟩:∃ x,x=bsz (cc:Int):=⟨_,rfl⟩;simp only [<-aRr,<-aRx,<-hz] at hmv hR htop lT hbk hbl hsz hlb hla hgv hcut htk hok2;obtain ⟨mk,hmk⟩:∃ x,x=tk*z:=⟨_,rfl⟩;obtain ⟨ml,hml⟩:∃ x,x=lg*z:=⟨_,rfl⟩;simp only [<-hmk,<-hml] at hmv hR hbk hbl hlb hla hgv htk;have aQu:mk+z<=16:=hbk.1;have aNh:ml+z<=16:=hbl.1;have hz8:z<=8:=by omega
 have hz2:0<z:=by omega
 obtain ⟨B,hB⟩:∃ B,B=j*16+ml:=⟨_,rfl⟩;have hgB:aEX P j=(B:Int):=by rw [hgv,hB];omega
 rw [hgB] at hgp;have aSj:Hid (Calls prog 253 #[.pointer (some ⟨q,0,none⟩),.int .i64 (B:Int),.int .i64 (z:Int)] w fun e w'=>e=.returned (.tuple #[])/\eF w' q k c l (P.set j ((P.pg j).take (cc:Int) lg fun _=>0))/\Only [c,l] w w'):=htk.out _ (by rw [hB]);have H:=aA h;have HOK:=aA hok;have HNO:=aA hno;have HIJ:=aA hij;have HZ:=aA hz;have HML:=aA hml;have HBB:=aA hB;have aTh:=aA hcls;have HCI:=aA hCi;have HTK:=aA hmk;have aSV:=aA htop;have aTP:=aA hne1;have hBn:B<P.n*16:=by omega
 have hB9:B+z<=P.n*16:=by omega
 have aSP:Hid (((16*j+ml:Nat):Int)=(B:Int)):=by show _=_;omega
 rw [aSP.out] at hR;obtain ⟨c1,c2,c3,z0,z1,z2,f0,f1,f2,_⟩:=h.facts;have hlive:Hid (∀ x,x<16->w.cell? ⟨l,i*16+x,none⟩=some (.bool ((P.pg i).live x))):=h.live i hi;clear h hok hno hij hz hml hB hcls hCi hmk aRr aRx hp hP hpc hgv hbk hbl hsz htop lT hne1 hpj htk hgB hsame;go_in;go_wp2_with fail;go_loop [5] (fun v=>∃ d:Nat,d<=cc/\v=.int .i64 d) (fun v=>cc - (intOf v).toNat)
 case atStart=>exact ⟨0,by omega,rfl⟩
 case round=>
  obtain ⟨d,hd,rfl⟩:=hrel
  by_cases hlt:d<cc
  ·have hd2:d<=2:=by omega
   have hc:=hpr.out d hd2;unfold aBM at hc;rw [zU (HNO.out d hlt)] at hc;generalize aMW (P.frm d P.n)=v1 at hc;generalize aMW (P.too d (P.frm d P.n) P.n)=v2 at hc;go_wp2_with fail;refine hc.mono ?_;rintro e _ ⟨rfl,rfl⟩;go_wp2_with fail;go_round
   case rel=>exact ⟨d+1,by omega,by go_num⟩
   case measure=>simp [intOf];omega
  obtain rfl:d=cc:=by omega
  go_wp2_with fail;refine aSq.out.mono ?_;rintro e _ ⟨rfl,rfl⟩;go_wp2_with fail;go_loop [9] (fun v=>∃ x s:Nat,x<=mk/\s=i*16+x/\v=.int .i64 s) (fun v=>i*16+mk - (intOf v).toNat)
  case atStart=>exact ⟨0,i*16,by omega,rfl,by go_num⟩
  case round=>
   clear hlt;obtain ⟨x,s,hx,hs,rfl⟩:=hrel;have hlv:=hlive.out x (by omega);rw [<-hs] at hlv;have hsn:s<P.n*16:=by omega
   by_cases hlt:x<mk
   ·rw [hlb.out x hlt] at hlv;have hs1:Hid (s+1=i*16+(x+1)):=by show _=_;omega
    have HS:=aA hs;have hs2:s<i*16+mk:=by omega
    clear hs;go_wp2_with fail;go_round
    case rel=>exact ⟨x+1,s+1,by omega,hs1.out,by go_num⟩
    case measure=>simp [intOf];omega
   obtain rfl:mk=x:=by omega
   rw [hla.out] at hlv;have HS:=aA hs;have hA9:s+z<=P.n*16:=by omega
   clear hs hlt;go_wp2_with fail;refine hgp.mono ?_;rintro e _ ⟨rfl,rfl⟩;go_wp2_with fail;refine (hcut _).mono ?_;rintro e _ ⟨rfl,rfl⟩;go_wp2_with fail;refine aSj.out.mono ?_;rintro e w2 ⟨rfl,h2,o2⟩;have H2:=aA h2;clear z0 z1 z2 f0 f1 f2 hlv h2;go_wp2_with fail;go_loopw [11] (fun v wr=>∃ y:Nat,y<=z/\v=.int .i64 y/\eF wr q k c l (P.set j ((P.pg j).take (d:Int) lg fun x=>if x<y then (P.pg i).cell (mk+x) else 0))/\Only [c,l] w wr) (fun v _=>z - (intOf v).toNat)
   case atStart=>exact ⟨0,by omega,rfl,by simpa using H2.out,o2⟩
   case round=>
    clear H2 o2;obtain ⟨y,hy,rfl,h3,o3⟩:=hrel;obtain ⟨d1,d2,d3,z0,z1,z2,f0,f1,f2,_⟩:=h3.facts;simp only [Pl.aOi] at z0 z1 z2
    by_cases hlt:y<z
    ·have hsrc:=h3.cells i hi (mk+y) (by omega);rw [Pl.aU _ _ HIJ.out] at hsrc;have hdst:=h3.cells j hj (ml+y) (by omega);have h4:=h3.setCell (i:=j) (j:=ml+y) hj (by omega) ((P.pg i).cell (mk+y));rw [Pl.aP,Pl.set_set,aHy HZ.out.symm HML.out.symm hlt (fun x=>(P.pg i).cell (mk+x))] at h4;rw [<-Nat.add_assoc,<-HBB.out] at h4;rw [<-Nat.add_assoc,<-HBB.out] at hdst;rw [<-Nat.add_assoc,<-HS.out] at hsrc;have H4:=aA h4;have H3:=aA h3;have hwa:IntKind.i64.wrap ((B:Int)+(y:Int))=(B:Int)+(y:Int):=IntWalk.i64_in _ (by omega);have hwb:IntKind.i64.wrap ((s:Int)+(y:Int))=(s:Int)+(y:Int):=IntWalk.i64_in _ (by omega);have hia:((B:Int)+(y:Int)).toNat=B+y:=by omega
     have hib:((s:Int)+(y:Int)).toNat=s+y:=by omega
     have hba:B+y<P.n*16:=by omega
     have hbb:s+y<P.n*16:=by omega
     have hca:(B:Int)+(y:Int)<(P.n:Int)*16:=by omega
     have hcb:(s:Int)+(y:Int)<(P.n:Int)*16:=by omega
     have aTG:0<=(B:Int)+(y:Int):=by omega
     have hcd0:0<=(s:Int)+(y:Int):=by omega
     clear h3 h4;go_wp2_with fail;refine (hcut _).mono ?_;rintro e _ ⟨rfl,rfl⟩;go_wp2_with fail;go_still_tail 17,(by kernel_rfl);change wpList _ _ _ _ _ wr.drew;have g1:wr.drew.frozen? ⟨c,B+y,none⟩=false:=f1 _;have g2:∃ v,wr.drew.cell? ⟨c,B+y,none⟩=some v:=⟨_,hdst⟩;obtain ⟨vd,g2⟩:=g2;refine wpList_plain rfl fun K hK=>?_;unfold Oper.wp;go_simp;refine hK _ _ ?_;clear hK K;refine wpList_nil ?_;clear g1 g2 hsrc hdst;go_wp2_with fail;exact ⟨⟨y+1,by omega,by go_num,H4.out.rD (lG.of _ 1),(o3.set (by simp) _).drewN 1⟩,by simp [intOf];omega⟩
    obtain rfl:z=y:=by omega
    have hfin:Hid ((P.pg j).take (d:Int) lg (fun x=>if x<z then (P.pg i).cell (mk+x) else 0)=(P.pg j).take (d:Int) lg fun x=>(P.pg i).cell (mk+x)):=aKi HZ.out.symm _;rw [hfin.out] at h3;have aSQ:s=i*16+mk:=HS.out;have aQn:(P.set j ((P.pg j).take (d:Int) lg fun x=>(P.pg i).cell (mk+x))).pg i=P.pg i:=Pl.aU _ _ HIJ.out;have aLh:Adr (P.set j ((P.pg j).take (d:Int) lg fun x=>(P.pg i).cell (mk+x))) s i mk:=⟨by omega,by omega,hi,by omega,by omega⟩;have hfr:(P.set j ((P.pg j).take (d:Int) lg fun x=>(P.pg i).cell (mk+x))).free (s:Int)=(0,P.moved i j):=by
     obtain ⟨b1,b2⟩:=(sK (hok2.out _) aLh).1 (by rw [aQn];exact hla.out);unfold Pl.free;rw [if_pos b1,if_pos b2];have e1:((s:Int).toNat / 16)=i:=by omega
     have e2:((s:Int).toNat % 16)=mk:=by omega
     rw [e1,e2,aQn,hmv.out];have e3:mk / bsz (P.pg i).cls=tk:=by rw [aTh.out,<-HZ.out,HTK.out];exact Nat.mul_div_cancel _ hz2
     rw [e3]
    have hfree:=aBO wr q k c l _ h3 (hok2.out _) (s:Int);rw [hfr] at hfree;have hval:Hid (((16*i+mk:Nat):Int)=(s:Int)):=by show _=_;omega
    rw [hval.out] at hR;clear h3 aSQ aLh hfr aQn hlt;go_wp2_with fail;refine (hcut _).mono ?_;rintro e _ ⟨rfl,rfl⟩;go_wp2_with fail;refine hfree.mono ?_;rintro e w4 ⟨rfl,h4,o4⟩;go_wp2_with fail;go_ret3;exact hR.out _ _ ⟨rfl,h4,(o3.mono (by simp)).trans o4 (by simp)⟩
theorem wJ (w:World) (q k c l:Nat) (P:Pl) (h:eF w q k c l P) (hok:P.ok) :
  Calls prog 226 #[.pointer (some ⟨q,0,none⟩)] w fun e w'=>
   e=.returned (.tuple #[.int .i64 P.move.1,.int .i64 P.move.2.1,.int .i64 P.move.2.2.1])/\eF w' q k c l P.move.2.2.2/\Only [k,c,l] w w':=by
 cases hp:P.pair with
 | none=>
  rw [Pl.fJ hp];exact (aFL w q k c l P h hok hp).mono fun e w' ⟨a,b⟩=>⟨a,b▸h,b▸Only.refl _ _⟩
 | some x=>
  obtain ⟨i,j⟩:=x;rw [Pl.fH hp];exact aFK w q k c l P h hok i j hp
theorem aES:(prog.info? 3).map (fun i=>(i.zero,i.size,i.bytes))=some (some (.int .i64 0),1,8):=by kernel_rfl
theorem aCr:(prog.info? 4).map (fun i=>(i.zero,i.size,i.bytes))=some (some (.bool false),1,1):=by kernel_rfl
def Pl.kinds (P:Pl):List Value:=(List.range P.n).map fun i=>.int .i64 (P.pg i).cls
def Pl.tV (P:Pl):List Value:=(List.range (P.n*16)).map fun x=>.int .i64 ((P.pg (x / 16)).cell (x % 16))
def Pl.sO (P:Pl):List Value:=(List.range (P.n*16)).map fun x=>.bool ((P.pg (x / 16)).live (x % 16))
theorem eF.aMT {w:World} {q k c l:Nat} {P:Pl} (hq:∃ T c1 c2 c3,Row w q T [.slice (some ⟨k,0,none⟩) P.n c1,.slice (some ⟨c,0,none⟩) (P.n*16) c2,.slice (some ⟨l,0,none⟩) (P.n*16) c3])
  (rk:∃ T cs,Row w k T cs) (rc:∃ T cs,Row w c T cs) (rl:∃ T cs,Row w l T cs)
  (hk:∀ j v,P.kinds[j]?=some v->w.cell? ⟨k,j,none⟩=some v) (hc:∀ j v,P.tV[j]?=some v->w.cell? ⟨c,j,none⟩=some v) (hl:∀ j v,P.sO[j]?=some v->w.cell? ⟨l,j,none⟩=some v)
  (ne:q≠k/\q≠c/\q≠l/\k≠c/\k≠l/\c≠l) (n1:1<=P.n) (n24:P.n<=24):eF w q k c l P:=by
 refine ⟨hq,rk,rc,rl,fun i hi=>hk i _ (by simp [Pl.kinds,hi]),fun i hi j hj=>?_,fun i hi j hj=>?_,ne,n1,n24⟩
 ·have:=hc (i*16+j) (.int .i64 ((P.pg ((i*16+j) / 16)).cell ((i*16+j) % 16))) (by unfold Pl.tV;rw [List.getElem?_map,List.getElem?_range (by omega)];rfl);rw [show (i*16+j) / 16=i by omega,show (i*16+j) % 16=j by omega] at this;exact this
 have:=hl (i*16+j) (.bool ((P.pg ((i*16+j) / 16)).live ((i*16+j) % 16))) (by unfold Pl.sO;rw [List.getElem?_map,List.getElem?_range (by omega)];rfl);rw [show (i*16+j) / 16=i by omega,show (i*16+j) % 16=j by omega] at this;exact this
theorem eF.news {w:World} {q k c l:Nat} {P:Pl} (h:eF w q k c l P):(∀ j v,P.kinds[j]?=some v->w.cell? ⟨k,j,none⟩=some v)/\(∀ j v,P.tV[j]?=some v->w.cell? ⟨c,j,none⟩=some v)/\(∀ j v,P.sO[j]?=some v->w.cell? ⟨l,j,none⟩=some v):=by
 refine ⟨fun j v hv=>?_,fun j v hv=>?_,fun j v hv=>?_⟩
 ·obtain ⟨hj,rfl⟩:=aAK hv;exact h.kind j hj
 ·obtain ⟨hj,rfl⟩:=aAK hv;have:=h.cells (j / 16) (by omega) (j % 16) (by omega);rwa [show j / 16*16+j % 16=j by omega] at this
 obtain ⟨hj,rfl⟩:=aAK hv;have:=h.live (j / 16) (by omega) (j % 16) (by omega);rwa [show j / 16*16+j % 16=j by omega] at this
theorem aMI {w wl:World} {a b c:Addr} {v0 v1 v2:Value} (o:Obj) (h:wl.cell? a=some v0/\wl.cell? b=some v1/\wl.cell? c=some v2/\Only [] w wl) :
  (wl.alloc o).cell? a=some v0/\(wl.alloc o).cell? b=some v1/\(wl.alloc o).cell? c=some v2/\Only [] w (wl.alloc o):=
 have k:Only [] wl (wl.alloc o):=(Only.refl [] wl).alloc o
 ⟨k.cell h.1 (by simp),k.cell h.2.1 (by simp),k.cell h.2.2.1 (by simp),h.2.2.2.alloc o⟩
theorem mJ (w:World) (q k c l:Nat) (P:Pl) (h:eF w q k c l P) :
  Calls prog 190 #[.pointer (some ⟨q,0,none⟩)] w fun e w'=>
   ∃ q' k' c' l',e=.returned (.pointer (some ⟨q',0,none⟩))/\eF w' q' k' c' l' P/\Only [] w w'/\w.heap.size<=q'/\w.heap.size<=k'/\w.heap.size<=c'/\w.heap.size<=l':=by
 refine aF fun R hR=>?_;obtain ⟨c1,c2,c3,z0,z1,z2,_⟩:=h.facts;have h24:=h.n24;have h1:=h.n1;have HN:=aA h.news;have hn16:0<P.n*16:=by omega
 have aTy:P.n*16<=1099511627776:=by omega
 obtain ⟨i0,hi0,hz0,hz1,hz2⟩:=info_parts aES;obtain ⟨j0,hj0,hy0,hy1,hy2⟩:=info_parts aCr;have I0:=aA hi0;have I1:=aA hz0;have I2:=aA hz1;have I3:Hid (i0.bytes<=16):=by show _<=_;rw [hz2];decide
 have J0:=aA hj0;have J1:=aA hy0;have J2:=aA hy1;have J3:Hid (j0.bytes<=16):=by show _<=_;rw [hy2];decide
 have LK:Hid (P.kinds.length=P.n):=by show _=_;simp [Pl.kinds]
 have LC:Hid (P.tV.length=P.n*16):=by show _=_;simp [Pl.tV]
 have LL:Hid (P.sO.length=P.n*16):=by show _=_;simp [Pl.sO]
 have hO:Only [] w w.drew:=(Only.refl _ _).drewN 1;clear hi0 hz0 hz1 hz2 hj0 hy0 hy1 hy2 h;go_in;go_wp2_with fail;go_region_held3 (fun w'=>w'.cell? ⟨q,0,none⟩=some (.slice (some ⟨k,0,none⟩) P.n c1)/\w'.cell? ⟨q,1,none⟩=some (.slice (some ⟨c,0,none⟩) (P.n*16) c2)/\w'.cell? ⟨q,2,none⟩=some (.slice (some ⟨l,0,none⟩) (P.n*16) c3)/\Only [] w w')
  (first
   | (go_keep;done)
   | (go_split_ands;exact ⟨hmk.only.cell (by assumption) (by simp),hmk.only.cell (by assumption) (by simp),hmk.only.cell (by assumption) (by simp),Only.trans (by assumption) hmk.only (by simp)⟩)
   | (go_split_ands;exact ⟨hmc.only.cell (by assumption) (by simp),hmc.only.cell (by assumption) (by simp),hmc.only.cell (by assumption) (by simp),Only.trans (by assumption) hmc.only (by simp)⟩)
   | (go_split_ands;exact ⟨hml.only.cell (by assumption) (by simp),hml.only.cell (by assumption) (by simp),hml.only.cell (by assumption) (by simp),Only.trans (by assumption) hml.only (by simp)⟩)
   | (exact aMI _ (by assumption)))
  (first
   | (refine jK rfl (.const (.slice none 0 0)) (.tmp 8) 23 rfl 3 i0 _ Tryz.underlying23 I0.out I1.out I2.out I3.out rfl ⟨k,0,none⟩ P.n c1 P.kinds (by rfl) LK.out (fun j u hu=>by rw [dG,Nat.zero_add];exact Only.cell hO (HN.out.1 j u hu) (by simp)) (by omega) (by omega) ?_;intro gk aRG wk hmk)
   | (refine jK rfl (.const (.slice none 0 0)) (.tmp 13) 23 rfl 3 i0 _ Tryz.underlying23 I0.out I1.out I2.out I3.out rfl ⟨c,0,none⟩ (P.n*16) c2 P.tV (by rfl) LC.out (fun j u hu=>by rw [dG,Nat.zero_add];exact Only.cell (hO.trans hmk.only (by simp)) (HN.out.2.1 j u hu) (by simp)) (by omega) (by omega) ?_;intro gc aRH wc hmc)
   | (refine jK rfl (.const (.slice none 0 0)) (.tmp 18) 50 rfl 4 j0 _ Tryz.underlying50 J0.out J1.out J2.out J3.out rfl ⟨l,0,none⟩ (P.n*16) c3 P.sO (by rfl) LL.out (fun j u hu=>by rw [dG,Nat.zero_add];exact Only.cell ((hO.trans hmk.only (by simp)).trans hmc.only (by simp)) (HN.out.2.2 j u hu) (by simp)) (by omega) (by omega) ?_;intro gl aRF wl hml))
 rename_i hHeld;clear hHeld;have H1:=aA hmk;have H2:=aA hmc;have H3:=aA hml;have HO:=aA hO;clear hmk hmc hml hO;go_wp2_with fail;have o3:Only [] w wl:=((HO.out.trans H1.out.only (by simp)).trans H2.out.only (by simp)).trans H3.out.only (by simp);have o23:Only [] wk wl:=H2.out.only.trans H3.out.only (by simp);have oal:Only [] wl (wl.alloc (.cells #[.slice (some ⟨gk,0,none⟩) P.n aRG,.slice (some ⟨gc,0,none⟩) (P.n*16) aRH,.slice (some ⟨gl,0,none⟩) (P.n*16) aRF] 245)):=(Only.refl _ _).alloc _;have g1:=H1.out.ge;have g2:=H2.out.ge;have g3:=H3.out.ge;have l1:=H1.out.lt;have l2:=H2.out.lt;have l3:=H3.out.lt;have e0:=HO.out.size;have e1:=H1.out.only.size;have e2:=H2.out.only.size;have e3:=H3.out.only.size;have e4:w.drew.heap.size=w.heap.size:=rfl;refine hR.out _ _ ⟨wl.heap.size,gk,gc,gl,rfl,?_,o3.trans oal (by simp),by omega,by omega,by omega,by omega⟩;refine eF.aMT ⟨_,aRG,aRH,aRF,Row.new wl _ [_,_,_]⟩ ?_ ?_ ?_ (fun j v hv=>(o23.trans oal (by simp)).cell (H1.out.cell j v hv) (by simp)) (fun j v hv=>(H3.out.only.trans oal (by simp)).cell (H2.out.cell j v hv) (by simp)) (fun j v hv=>oal.cell (H3.out.cell j v hv) (by simp)) ⟨by omega,by omega,by omega,by omega,by omega,by omega⟩ h1 h24
 ·obtain ⟨T,cs,r⟩:=H1.out.row;exact ⟨T,cs,(o23.trans oal (by simp)).row r (by simp)⟩
 ·obtain ⟨T,cs,r⟩:=H2.out.row;exact ⟨T,cs,(H3.out.only.trans oal (by simp)).row r (by simp)⟩
 obtain ⟨T,cs,r⟩:=H3.out.row;exact ⟨T,cs,oal.row r (by simp)⟩
set_option maxHeartbeats 3200000
theorem aKE (w:World) (n:Int) (h:n<1\/24<n) :
  Calls prog 171 #[.int .i64 n] w (aK w (.tuple #[.pointer none,.int .i64 1])):=by
 refine aF fun R hR=>?_
 by_cases h1:n<1
 ·go_in;go_wp2_with fail;exact hR.out _ _ ⟨rfl,rfl⟩
 have h2:24<n:=by omega
 have h1':decide (n<1)=false:=by simpa using h1
 clear h;go_in;go_wp2_with fail;exact hR.out _ _ ⟨rfl,rfl⟩
structure aLV (w wx:World) (n q c l:Nat):Prop where
 hq:∃ T,Row wx q T [.slice none 0 0,.slice (some ⟨c,0,none⟩) (n*16) (n*16),.slice (some ⟨l,0,none⟩) (n*16) (n*16)]
 rc:∃ T cs,Row wx c T cs
 rl:∃ T cs,Row wx l T cs
 cc:∀ x,x<n*16->wx.cell? ⟨c,x,none⟩=some (.int .i64 0)
 cl:∀ x,x<n*16->wx.cell? ⟨l,x,none⟩=some (.bool false)
 ne:q≠c/\q≠l/\c≠l
 ge:w.heap.size<=q/\w.heap.size<=c/\w.heap.size<=l
 lt:q<wx.heap.size/\c<wx.heap.size/\l<wx.heap.size
 o:Only [] w wx
theorem aAb {v:Value} (h:v.cells=#[v]) {n x:Nat} (hx:x<n):(madeCells v.cells (n*1)).toList[x]?=some v:=by
 rw [h];simp [madeCells,hx,Nat.mod_one]
theorem aOu (w:World) (n:Nat) (CI CB:Array Value) (hi:∀ x,x<n*16->CI.toList[x]?=some (.int .i64 0)) (hb:∀ x,x<n*16->CB.toList[x]?=some (.bool false)) (T1 T2 T3:Nat) :
  aLV w (((w.drew.alloc (.cells CI T1)).alloc (.cells CB T2)).alloc (.cells #[.slice none 0 0,.slice (some ⟨w.heap.size,0,none⟩) (n*16) (n*16),.slice (some ⟨w.heap.size+1,0,none⟩) (n*16) (n*16)] T3)) n (w.heap.size+1+1) w.heap.size (w.heap.size+1):=by
 have r1:Row (((w.drew.alloc (.cells CI T1)).alloc (.cells CB T2)).alloc (.cells #[.slice none 0 0,.slice (some ⟨w.heap.size,0,none⟩) (n*16) (n*16),.slice (some ⟨w.heap.size+1,0,none⟩) (n*16) (n*16)] T3)) w.heap.size T1 CI.toList:=((Row.new w.drew T1 CI.toList).alloc _).alloc _;have r2:=(Row.new (w.drew.alloc (.cells CI T1)) T2 CB.toList).alloc (.cells #[.slice none 0 0,.slice (some ⟨w.heap.size,0,none⟩) (n*16) (n*16),.slice (some ⟨w.heap.size+1,0,none⟩) (n*16) (n*16)] T3);have e2:(w.drew.alloc (.cells CI T1)).heap.size=w.heap.size+1:=by simp
 rw [e2] at r2;have r3:=Row.new ((w.drew.alloc (.cells CI T1)).alloc (.cells CB T2)) T3 [.slice none 0 0,.slice (some ⟨w.heap.size,0,none⟩) (n*16) (n*16),.slice (some ⟨w.heap.size+1,0,none⟩) (n*16) (n*16)];have e3:((w.drew.alloc (.cells CI T1)).alloc (.cells CB T2)).heap.size=w.heap.size+1+1:=by simp
 rw [e3] at r3;exact ⟨⟨_,r3⟩,⟨_,_,r1⟩,⟨_,_,r2⟩,fun x hx=>r1.cell x (hi x hx),fun x hx=>r2.cell x (hb x hx),⟨by omega,by omega,by omega⟩,⟨by omega,by omega,by omega⟩,⟨r3.lt,r1.lt,r2.lt⟩,((((Only.refl [] w).drewN 1).alloc _).alloc _).alloc _⟩
theorem aOt (w:World) (n:Nat) (CI CB:Array Value) (hi:∀ x,x<n*16->CI.toList[x]?=some (.int .i64 0)) (hb:∀ x,x<n*16->CB.toList[x]?=some (.bool false)) (T1 T2 T3:Nat) :
  aLV w (((w.drew.alloc (.cells CB T2)).alloc (.cells CI T1)).alloc (.cells #[.slice none 0 0,.slice (some ⟨w.heap.size+1,0,none⟩) (n*16) (n*16),.slice (some ⟨w.heap.size,0,none⟩) (n*16) (n*16)] T3)) n (w.heap.size+1+1) (w.heap.size+1) w.heap.size:=by
 have r1:Row (((w.drew.alloc (.cells CB T2)).alloc (.cells CI T1)).alloc (.cells #[.slice none 0 0,.slice (some ⟨w.heap.size+1,0,none⟩) (n*16) (n*16),.slice (some ⟨w.heap.size,0,none⟩) (n*16) (n*16)] T3)) w.heap.size T2 CB.toList:=((Row.new w.drew T2 CB.toList).alloc _).alloc _;have r2:=(Row.new (w.drew.alloc (.cells CB T2)) T1 CI.toList).alloc (.cells #[.slice none 0 0,.slice (some ⟨w.heap.size+1,0,none⟩) (n*16) (n*16),.slice (some ⟨w.heap.size,0,none⟩) (n*16) (n*16)] T3);have e2:(w.drew.alloc (.cells CB T2)).heap.size=w.heap.size+1:=by simp
 rw [e2] at r2;have r3:=Row.new ((w.drew.alloc (.cells CB T2)).alloc (.cells CI T1)) T3 [.slice none 0 0,.slice (some ⟨w.heap.size+1,0,none⟩) (n*16) (n*16),.slice (some ⟨w.heap.size,0,none⟩) (n*16) (n*16)];have e3:((w.drew.alloc (.cells CB T2)).alloc (.cells CI T1)).heap.size=w.heap.size+1+1:=by simp
 rw [e3] at r3;exact ⟨⟨_,r3⟩,⟨_,_,r2⟩,⟨_,_,r1⟩,fun x hx=>r2.cell x (hi x hx),fun x hx=>r1.cell x (hb x hx),⟨by omega,by omega,by omega⟩,⟨by omega,by omega,by omega⟩,⟨r3.lt,r2.lt,r1.lt⟩,((((Only.refl [] w).drewN 1).alloc _).alloc _).alloc _⟩
theorem aKD (w:World) (n:Nat) (h1:1<=n) (h24:n<=24) :
  Calls prog 171 #[.int .i64 n] w fun e w'=>
   ∃ q k c l,e=.returned (.tuple #[.pointer (some ⟨q,0,none⟩),.int .i64 0])/\eF w' q k c l (Pl.zero n)/\Only [] w w'/\w.heap.size<=q/\w.heap.size<=k/\w.heap.size<=c/\w.heap.size<=l:=by
 refine aF fun R hR=>?_;have h1':decide ((n:Int)<1)=false:=by simp;omega
 have h2':decide (24<(n:Int))=false:=by simp;omega
 obtain ⟨i0,hi0,hz0,hz1,hz2⟩:=info_parts aES;obtain ⟨j0,hj0,hy0,hy1,hy2⟩:=info_parts aCr;obtain ⟨CI,hCI⟩:∃ CI,CI=madeCells (Value.int .i64 0).cells (n*16*1):=⟨_,rfl⟩;obtain ⟨CB,hCB⟩:∃ CB,CB=madeCells (Value.bool false).cells (n*16*1):=⟨_,rfl⟩;have FI:Hid (∀ x,x<n*16->CI.toList[x]?=some (.int .i64 0)):=fun x hx=>by rw [hCI];exact aAb rfl hx
 have FB:Hid (∀ x,x<n*16->CB.toList[x]?=some (.bool false)):=fun x hx=>by rw [hCB];exact aAb rfl hx
 have hwr:IntKind.i64.wrap ((n:Int)*16)=(n:Int)*16:=IntWalk.i64_in _ (by omega);have eN:((n:Int)*16).toNat=n*16:=by omega
 have hmi:∀ wx,(Instr.makeSlice 23 (.int .i64 ((n:Int)*16)) (.int .i64 ((n:Int)*16))).run prog wx=.ok (.slice (some ⟨wx.heap.size,0,none⟩) (n*16) (n*16)) (wx.alloc (.cells CI 3)):=fun wx=>by
  rw [run_makeSlice (P:=prog) (w:=wx) 23 3 i0 _ Tryz.underlying23 hi0 hz0 .i64 .i64 _ _ (by omega) (by omega) (by rw [hz1];omega) (by rw [hz2];omega) (by omega),eN,hz1,hCI]
 have hmb:∀ wx,(Instr.makeSlice 50 (.int .i64 ((n:Int)*16)) (.int .i64 ((n:Int)*16))).run prog wx=.ok (.slice (some ⟨wx.heap.size,0,none⟩) (n*16) (n*16)) (wx.alloc (.cells CB 4)):=fun wx=>by
  rw [run_makeSlice (P:=prog) (w:=wx) 50 4 j0 _ Tryz.underlying50 hj0 hy0 .i64 .i64 _ _ (by omega) (by omega) (by rw [hy1];omega) (by rw [hy2];omega) (by omega),eN,hy1,hCB]
 clear hi0 hz0 hz1 hz2 hj0 hy0 hy1 hy2 hCI hCB;go_in;go_wp2_with fail;go_region
 ·have hr:aLV w (((w.alloc (.cells CI 3)).alloc (.cells CB 4)).alloc (.cells #[.slice none 0 0,.slice (some ⟨w.heap.size,0,none⟩) (n*16) (n*16),.slice (some ⟨w.heap.size+1,0,none⟩) (n*16) (n*16)] 245)).drew n (w.heap.size+1+1) (w.heap.size) (w.heap.size+1):=aOu w n CI CB FI.out FB.out _ _ _;generalize (((w.alloc (.cells CI 3)).alloc (.cells CB 4)).alloc (.cells #[.slice none 0 0,.slice (some ⟨w.heap.size,0,none⟩) (n*16) (n*16),.slice (some ⟨w.heap.size+1,0,none⟩) (n*16) (n*16)] 245)).drew=wx at*;generalize w.heap.size+1+1=q at*;generalize w.heap.size+1=l at*;obtain ⟨c,hcl⟩:∃ x,x=w.heap.size:=⟨_,rfl⟩;rw [<-hcl] at hr ⊢;clear hcl hmi hmb;have HR:=aA hr;clear hr;go_wp2_with fail;go_loopw [5] (fun v wr=>∃ (i:Nat) (kv:Value),i<=n/\v=.int .i64 i/\(∃ T,Row wr q T [kv,.slice (some ⟨c,0,none⟩) (n*16) (n*16),.slice (some ⟨l,0,none⟩) (n*16) (n*16)])/\aO wr w.heap.size kv (List.replicate i (-1))/\
    (∀ b,kv.ownBlock=some b->b≠q/\b≠c/\b≠l)/\(∃ T cs,Row wr c T cs)/\(∃ T cs,Row wr l T cs)/\(∀ x,x<n*16->wr.cell? ⟨c,x,none⟩=some (.int .i64 0))/\(∀ x,x<n*16->wr.cell? ⟨l,x,none⟩=some (.bool false))/\Only [] w wr/\q<wr.heap.size/\c<wr.heap.size/\l<wr.heap.size) (fun v _=>n - (intOf v).toNat)
  case atStart=>exact ⟨0,_,by omega,rfl,HR.out.hq,aO.nil _ _,by simp [Value.ownBlock],HR.out.rc,HR.out.rl,HR.out.cc,HR.out.cl,HR.out.o,HR.out.lt.1,HR.out.lt.2.1,HR.out.lt.2.2⟩
  case round=>
   obtain ⟨i,kv,hi,rfl,hq,hk,hb,rc,rl,cc,cl,o,lt1,lt2,lt3⟩:=hrel;obtain ⟨T,hq⟩:=hq;have z0:=hq.cell 0 rfl;have zf:=hq.free 0;have HK:=aA hk;have HB:=aA hb;have HQ:=aA hq;have RC:=aA rc;have RL:=aA rl;have CC:=aA cc;have CL:=aA cl;have HO:=aA o;clear hk hb hq rc rl cc cl o
   by_cases hlt:i<n
   ·have hki:=HK.out.alloc (.cells #[.int .i64 (-1)] 3);have HKI:=aA hki;clear hki;go_wp2_with (at_builtin;refine bI rfl _ _ rfl w.heap.size kv _ rfl HKI.out wr.heap.size (-1) rfl ?c1 ?c2 ?c3 ?c4)
    case c1=>exact (Row.new wr _ [_]).cell 0 rfl
    case c2=>simp;omega
    case c3=>have:=HO.out.size;simp;omega
    case c4=>
     intro v' w6 f6 o6 b6;have o16:Only kv.ownBlock.toList wr w6:=((Only.refl _ wr).alloc _).trans o6 (fun x hx=>.inl hx);have hn1:∀ b,kv.ownBlock=some b->w.heap.size<=b/\b<wr.heap.size:=HK.out.own;have hq6:=o16.row HQ.out (fun hx=>by
      cases hkb:kv.ownBlock with
      | none=>rw [hkb] at hx;simp at hx
      | some b=>rw [hkb] at hx;simp at hx;exact (HB.out b hkb).1 hx.symm)
     rcases f6.form with ⟨_,h9⟩|⟨g,cap,hv',_⟩
     ·simp at h9
     have z6:=hq6.cell 0 rfl;have zf6:=hq6.free 0;have F6:=aA f6;have O16:=aA o16;have B6:=aA b6;have Q6:=aA hq6;have HN1:=aA hn1;clear f6 o6 b6 o16 hq6 hn1;subst hv';go_wp2_with fail;have hs6:=O16.out.size;have hb6:∀ b,(Value.slice (some ⟨g,0,none⟩) (List.replicate i (-1:Int) ++ [-1]).length cap).ownBlock=some b->b≠q/\b≠c/\b≠l:=by
      intro b hvb;rcases B6.out with h7|h7
      ·exact HB.out b (by rw [<-h7];exact hvb)
      rw [h7] at hvb;simp at hvb;omega
     have hcq:∀ x,x∈kv.ownBlock.toList->x≠c/\x≠l:=by
      intro x hx
      cases hkb:kv.ownBlock with
      | none=>rw [hkb] at hx;simp at hx
      | some b=>rw [hkb] at hx;simp at hx;subst hx;exact (HB.out _ hkb).2
     have hne:=HR.out.ne;refine ⟨⟨i+1,_,by omega,by go_num,⟨T,Q6.out.set 0 _⟩,?_,hb6,?_,?_,fun x hx=>?_,fun x hx=>?_,?_,by simp;omega,by simp;omega,by simp;omega⟩,by simp [intOf];omega⟩
     ·have h8:=F6.out;have hlen:(List.replicate i (-1:Int) ++ [-1]).length=i+1:=by simp
      rw [hlen] at h8;rw [show List.replicate (i+1) (-1:Int)=List.replicate i (-1) ++ [-1] from List.replicate_succ'];exact h8.only ((Only.refl [q] w6).set (p:=⟨q,0,none⟩) (by simp) _) (fun b hvb=>by simpa using (hb6 b hvb).1)
     ·obtain ⟨T',cs,r⟩:=RC.out;exact ⟨T',cs,((O16.out.row r (fun hx=>(hcq _ hx).1 rfl))).other (by simpa using hne.1) _⟩
     ·obtain ⟨T',cs,r⟩:=RL.out;exact ⟨T',cs,((O16.out.row r (fun hx=>(hcq _ hx).2 rfl))).other (by simpa using hne.2.1) _⟩
     ·exact ((Only.refl [q] w6).set (by simp) _).cell (O16.out.cell (CC.out x hx) (fun hx'=>(hcq _ hx').1 rfl)) (by simpa using hne.1.symm)
     ·exact ((Only.refl [q] w6).set (by simp) _).cell (O16.out.cell (CL.out x hx) (fun hx'=>(hcq _ hx').2 rfl)) (by simpa using hne.2.1.symm)
     exact (HO.out.trans O16.out (fun x hx=>by
      cases hkb:kv.ownBlock with
      | none=>rw [hkb] at hx;simp at hx
      | some b=>rw [hkb] at hx;simp at hx;subst hx;exact .inr (HN1.out _ hkb).1)).set (.inr HR.out.ge.1) _
   have hin:i=n:=by omega
   subst hin;go_wp2_with fail;rcases HK.out.form with ⟨_,h9⟩|⟨g,cap,hkv,hg,hgl,hcap,hat⟩
   ·have:=congrArg List.length h9;simp at this;omega
   have hbb:=HB.out g (by rw [hkv];rfl);have hne:=HR.out.ne;have hqq:=HQ.out;rw [hkv,List.length_replicate] at hqq;refine hR.out _ _ ⟨q,g,c,l,rfl,⟨⟨T,cap,_,_,hqq⟩,?_,RC.out,RL.out,fun x hx=>?_,fun x hx y hy=>?_,fun x hx y hy=>?_,⟨hbb.1.symm,hne.1,hne.2.1,hbb.2.1,hbb.2.2,hne.2.2⟩,h1,h24⟩,HO.out,HR.out.ge.1,hg,HR.out.ge.2.1,HR.out.ge.2.2⟩
   ·rcases HK.out.2 with ⟨e,_⟩|⟨g',cap',cur,e,_,hh,_⟩
    ·rw [hkv] at e;cases e
    rw [hkv] at e;simp only [Value.slice.injEq,Option.some.injEq,Addr.mk.injEq] at e;obtain ⟨⟨rfl,_⟩,_⟩:=e;exact ⟨_,cur.toList,by unfold Row;rw [hh]⟩
   ·have hx':x<i:=hx;have:=hat x (by simp;exact hx');rw [this];simp [gI,hx',Pl.zero,Pg.zero]
   ·exact CC.out _ (by show _<i*16;have:x<i:=hx;omega)
   exact CL.out _ (by show _<i*16;have:x<i:=hx;omega)
 have hr:aLV w (((w.alloc (.cells CB 4)).alloc (.cells CI 3)).alloc (.cells #[.slice none 0 0,.slice (some ⟨w.heap.size+1,0,none⟩) (n*16) (n*16),.slice (some ⟨w.heap.size,0,none⟩) (n*16) (n*16)] 245)).drew n (w.heap.size+1+1) (w.heap.size+1) (w.heap.size):=aOt w n CI CB FI.out FB.out _ _ _;generalize (((w.alloc (.cells CB 4)).alloc (.cells CI 3)).alloc (.cells #[.slice none 0 0,.slice (some ⟨w.heap.size+1,0,none⟩) (n*16) (n*16),.slice (some ⟨w.heap.size,0,none⟩) (n*16) (n*16)] 245)).drew=wx at*;generalize w.heap.size+1+1=q at*;generalize w.heap.size+1=c at*;obtain ⟨l,hcl⟩:∃ x,x=w.heap.size:=⟨_,rfl⟩;rw [<-hcl] at hr ⊢;clear hcl hmi hmb;have HR:=aA hr;clear hr;go_wp2_with fail;go_loopw [5] (fun v wr=>∃ (i:Nat) (kv:Value),i<=n/\v=.int .i64 i/\(∃ T,Row wr q T [kv,.slice (some ⟨c,0,none⟩) (n*16) (n*16),.slice (some ⟨l,0,none⟩) (n*16) (n*16)])/\aO wr w.heap.size kv (List.replicate i (-1))/\
   (∀ b,kv.ownBlock=some b->b≠q/\b≠c/\b≠l)/\(∃ T cs,Row wr c T cs)/\(∃ T cs,Row wr l T cs)/\(∀ x,x<n*16->wr.cell? ⟨c,x,none⟩=some (.int .i64 0))/\(∀ x,x<n*16->wr.cell? ⟨l,x,none⟩=some (.bool false))/\Only [] w wr/\q<wr.heap.size/\c<wr.heap.size/\l<wr.heap.size) (fun v _=>n - (intOf v).toNat)
 case atStart=>exact ⟨0,_,by omega,rfl,HR.out.hq,aO.nil _ _,by simp [Value.ownBlock],HR.out.rc,HR.out.rl,HR.out.cc,HR.out.cl,HR.out.o,HR.out.lt.1,HR.out.lt.2.1,HR.out.lt.2.2⟩
 case round=>
  obtain ⟨i,kv,hi,rfl,hq,hk,hb,rc,rl,cc,cl,o,lt1,lt2,lt3⟩:=hrel;obtain ⟨T,hq⟩:=hq;have z0:=hq.cell 0 rfl;have zf:=hq.free 0;have HK:=aA hk;have HB:=aA hb;have HQ:=aA hq;have RC:=aA rc;have RL:=aA rl;have CC:=aA cc;have CL:=aA cl;have HO:=aA o;clear hk hb hq rc rl cc cl o
  by_cases hlt:i<n
  ·have hki:=HK.out.alloc (.cells #[.int .i64 (-1)] 3);have HKI:=aA hki;clear hki;go_wp2_with (at_builtin;refine bI rfl _ _ rfl w.heap.size kv _ rfl HKI.out wr.heap.size (-1) rfl ?c1 ?c2 ?c3 ?c4)
   case c1=>exact (Row.new wr _ [_]).cell 0 rfl
   case c2=>simp;omega
   case c3=>have:=HO.out.size;simp;omega
   case c4=>
    intro v' w6 f6 o6 b6;have o16:Only kv.ownBlock.toList wr w6:=((Only.refl _ wr).alloc _).trans o6 (fun x hx=>.inl hx);have hn1:∀ b,kv.ownBlock=some b->w.heap.size<=b/\b<wr.heap.size:=HK.out.own;have hq6:=o16.row HQ.out (fun hx=>by
     cases hkb:kv.ownBlock with
     | none=>rw [hkb] at hx;simp at hx
     | some b=>rw [hkb] at hx;simp at hx;exact (HB.out b hkb).1 hx.symm)
    rcases f6.form with ⟨_,h9⟩|⟨g,cap,hv',_⟩
    ·simp at h9
    have z6:=hq6.cell 0 rfl;have zf6:=hq6.free 0;have F6:=aA f6;have O16:=aA o16;have B6:=aA b6;have Q6:=aA hq6;have HN1:=aA hn1;clear f6 o6 b6 o16 hq6 hn1;subst hv';go_wp2_with fail;have hs6:=O16.out.size;have hb6:∀ b,(Value.slice (some ⟨g,0,none⟩) (List.replicate i (-1:Int) ++ [-1]).length cap).ownBlock=some b->b≠q/\b≠c/\b≠l:=by
     intro b hvb;rcases B6.out with h7|h7
     ·exact HB.out b (by rw [<-h7];exact hvb)
     rw [h7] at hvb;simp at hvb;omega
    have hcq:∀ x,x∈kv.ownBlock.toList->x≠c/\x≠l:=by
     intro x hx
     cases hkb:kv.ownBlock with
     | none=>rw [hkb] at hx;simp at hx
     | some b=>rw [hkb] at hx;simp at hx;subst hx;exact (HB.out _ hkb).2
    have hne:=HR.out.ne;refine ⟨⟨i+1,_,by omega,by go_num,⟨T,Q6.out.set 0 _⟩,?_,hb6,?_,?_,fun x hx=>?_,fun x hx=>?_,?_,by simp;omega,by simp;omega,by simp;omega⟩,by simp [intOf];omega⟩
    ·have h8:=F6.out;have hlen:(List.replicate i (-1:Int) ++ [-1]).length=i+1:=by simp
     rw [hlen] at h8;rw [show List.replicate (i+1) (-1:Int)=List.replicate i (-1) ++ [-1] from List.replicate_succ'];exact h8.only ((Only.refl [q] w6).set (p:=⟨q,0,none⟩) (by simp) _) (fun b hvb=>by simpa using (hb6 b hvb).1)
    ·obtain ⟨T',cs,r⟩:=RC.out;exact ⟨T',cs,((O16.out.row r (fun hx=>(hcq _ hx).1 rfl))).other (by simpa using hne.1) _⟩
    ·obtain ⟨T',cs,r⟩:=RL.out;exact ⟨T',cs,((O16.out.row r (fun hx=>(hcq _ hx).2 rfl))).other (by simpa using hne.2.1) _⟩
    ·exact ((Only.refl [q] w6).set (by simp) _).cell (O16.out.cell (CC.out x hx) (fun hx'=>(hcq _ hx').1 rfl)) (by simpa using hne.1.symm)
    ·exact ((Only.refl [q] w6).set (by simp) _).cell (O16.out.cell (CL.out x hx) (fun hx'=>(hcq _ hx').2 rfl)) (by simpa using hne.2.1.symm)
    exact (HO.out.trans O16.out (fun x hx=>by
     cases hkb:kv.ownBlock with
     | none=>rw [hkb] at hx;simp at hx
     | some b=>rw [hkb] at hx;simp at hx;subst hx;exact .inr (HN1.out _ hkb).1)).set (.inr HR.out.ge.1) _
  have hin:i=n:=by omega
  subst hin;go_wp2_with fail;rcases HK.out.form with ⟨_,h9⟩|⟨g,cap,hkv,hg,hgl,hcap,hat⟩
  ·have:=congrArg List.length h9;simp at this;omega
  have hbb:=HB.out g (by rw [hkv];rfl);have hne:=HR.out.ne;have hqq:=HQ.out;rw [hkv,List.length_replicate] at hqq;refine hR.out _ _ ⟨q,g,c,l,rfl,⟨⟨T,cap,_,_,hqq⟩,?_,RC.out,RL.out,fun x hx=>?_,fun x hx y hy=>?_,fun x hx y hy=>?_,⟨hbb.1.symm,hne.1,hne.2.1,hbb.2.1,hbb.2.2,hne.2.2⟩,h1,h24⟩,HO.out,HR.out.ge.1,hg,HR.out.ge.2.1,HR.out.ge.2.2⟩
  ·rcases HK.out.2 with ⟨e,_⟩|⟨g',cap',cur,e,_,hh,_⟩
   ·rw [hkv] at e;cases e
   rw [hkv] at e;simp only [Value.slice.injEq,Option.some.injEq,Addr.mk.injEq] at e;obtain ⟨⟨rfl,_⟩,_⟩:=e;exact ⟨_,cur.toList,by unfold Row;rw [hh]⟩
  ·have hx':x<i:=hx;have:=hat x (by simp;exact hx');rw [this];simp [gI,hx',Pl.zero,Pg.zero]
  ·exact CC.out _ (by show _<i*16;have:x<i:=hx;omega)
  exact CL.out _ (by show _<i*16;have:x<i:=hx;omega)
end Go.Proofs.YthflghdaejbdkaaGreat
