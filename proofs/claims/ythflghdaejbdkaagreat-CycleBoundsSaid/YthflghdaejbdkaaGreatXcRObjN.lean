/- Lemmas of this claim. -/
import Derived.Test.YthflghdaejbdkaaGreatXcRObjL
namespace Go.Proofs.YthflghdaejbdkaaGreat
open _root_.Go.Proofs.Tryz (prog)
open Go.RowKit Go.Maps
set_option maxHeartbeats 6400000
set_option maxRecDepth 100000
set_option linter.unusedVariables false
section
variable {L:Nat->Option Gb} {hb:Nat} {M:Hp} {X:GX}
theorem aKw (w:World) (h:bH w L hb M X) (hk:M.Ok) (x:Int) {o:Th} (ho:M.ob x=some o) :
  Calls prog 250 #[.pointer (some ⟨hb,0,none⟩),.int .i64 x] w (fun e w'=>e=.returned (.tuple #[])/\∀ r,lM w L hb r (M.drop x o) (.returned r) w'):=by
 refine aF fun R hR=>?_;have h2:=h.cells.1;obtain ⟨i,rfl,hi,x0,x1⟩:=hk.idx ho;obtain ⟨c0,c1,c2,c3,c4⟩:=h.iR hi ho;have lo:=hk.aMr ho;have th:=h.th (i:Int) o ho;obtain ⟨a2,b2,e2⟩:=th.rb.len;obtain ⟨a3,b3,e3⟩:=th.sl.len;obtain ⟨bg,b4,e4,h7⟩:=th.bl.cellsOf lo.b1;have x4:Hid (L bg=some (.bl i)):=th.Lb bg (by rw [e4];rfl);rw [e2] at c2;rw [e3] at c3;rw [e4] at c4;obtain ⟨d,h8⟩:∃ z,z=o.blocks.length:=⟨_,rfl⟩;rw [<-h8] at c4 h7;have y3:=aA h7;have y4:=aA h8;have y2:Hid (1<=d/\d<=7):=by have:=lo.b1;have:=lo.b7;exact ⟨by omega,by omega⟩
 have H:=aA h;have HK:=aA hk;have y7:=aA ho;have x3:=aA hi;generalize o.kind=kd at*;generalize o.cls=cl at*;generalize o.refs.length=rn at*;generalize o.slots.length=n at*;obtain ⟨og,h9⟩:∃ z,z=X.og:=⟨_,rfl⟩;rw [<-h9] at h2 c0 c1 c2 c3 c4;have h1:=aA h9;have x6:Hid (Row (w.alloc (.cells #[.int .i64 kd,.int .i64 cl,.slice a2 rn b2,.slice a3 n b3,.slice (some ⟨bg,0,none⟩) d b4] 217)) w.heap.size 217 [.int .i64 kd,.int .i64 cl,.slice a2 rn b2,.slice a3 n b3,.slice (some ⟨bg,0,none⟩) d b4]):=Row.new w _ [_,_,_,_,_];have h5:Hid (Only [] w (w.alloc (.cells #[.int .i64 kd,.int .i64 cl,.slice a2 rn b2,.slice a3 n b3,.slice (some ⟨bg,0,none⟩) d b4] 217))):=(Only.refl [] w).alloc _;clear th h hk ho lo e2 e3 e4 h7 h8 hi h9;go_in;go_wp2_with fail;generalize (w.alloc (.cells #[.int .i64 kd,.int .i64 cl,.slice a2 rn b2,.slice a3 n b3,.slice (some ⟨bg,0,none⟩) d b4] 217))=w6 at*;obtain ⟨y,hy⟩:∃ y,y=w.heap.size:=⟨_,rfl⟩;rw [<-hy] at x6 ⊢;have x5:Hid (L y=none):=by
  show _=_
  cases e:L y with
  | none=>rfl
  | some ℓ=>have:=H.out.lt y (by rw [e];simp);omega
 clear h2 c0 c1 c2 c3 c4 hy;have x2:Hid (bH w6 L hb ⟨iH M.P o.blocks 0,M.ob⟩ X):=H.out.aN h5.out;have N1:Hid (hb∉[X.k,X.c,X.l]):=bH.notP (P:=M.P) (ob:=M.ob) H.out H.out.Lm (by simp) (by simp) (by simp) (by simp);have NB:Hid (bg∉[X.k,X.c,X.l]):=bH.notP (P:=M.P) (ob:=M.ob) H.out x4.out (by simp) (by simp) (by simp) (by simp);have NY:Hid (y∉[X.k,X.c,X.l]):=by
  have:=x5.out;show _∉_;simp;refine ⟨?_,?_,?_⟩<;>(rintro rfl;first|(rw [H.out.Lk] at this;cases this)|(rw [H.out.Lc] at this;cases this)|(rw [H.out.Ll] at this;cases this))
 go_loopw [5] (fun iv wr=>∃ m:Nat,m<=d/\iv=.int .i64 m/\bH wr L hb ⟨iH M.P o.blocks m,M.ob⟩ X/\aI (fun k=>kK (L k)) w6 wr) (fun iv _=>d - (intOf iv).toNat)
 case atStart=>exact ⟨0,by omega,rfl,x2.out,aI.refl _ _⟩
 case round=>
  clear x2;obtain ⟨m,hm,rfl,hg,ho⟩:=hrel;have HG:=aA hg;have HO:=aA ho;have x9:¬ kK (L y):=by rw [x5.out];rintro (h|h|h|h)<;>cases h
  have h3:=ho.row x6.out x9;have d4:wr.cell? ⟨y,4,none⟩=some (.slice (some ⟨bg,0,none⟩) d b4):=h3.cell 4 rfl;clear hg ho x9 h3
  by_cases y9:m<d
  ·have y0:(m:Int)<(d:Int):=by omega
   have z1:(0:Int)<=(m:Int):=by omega
   have z2:(m:Int)<=7:=by have:=y2.out;omega
   have e1:wr.drew.cell? ⟨hb,1,none⟩=some (.pointer (some ⟨X.q,0,none⟩)):=HG.out.cells.2.1;have e4:wr.drew.cell? ⟨y,4,none⟩=some (.slice (some ⟨bg,0,none⟩) d b4):=d4;have x7:¬ kK (L bg):=by rw [x4.out];rintro (h|h|h|h)<;>cases h
   have eb:wr.drew.cell? ⟨bg,m,none⟩=some (.int .i64 (gI o.blocks m)):=HO.out.cell (h5.out.aQ (y3.out m y9)) x7;have y8:Hid ((iH M.P o.blocks m).ok):=(aAT HK.out.p o.blocks m).1;have h4:=aA (aCy wr.drew X.q X.k X.c X.l (iH M.P o.blocks m) HG.out.drew.pool y8.out (gI o.blocks m));obtain ⟨a0,h6⟩:∃ z,z=gI o.blocks m:=⟨_,rfl⟩;rw [<-h6] at h4 eb;have y1:=aA h6;have n1:=N1.out;have nb:=NB.out;have ny:=NY.out;clear h6 x7;go_wp2;go_region_held3 (fun w'=>w'.cell? ⟨hb,1,none⟩=some (.pointer (some ⟨X.q,0,none⟩))/\w'.cell? ⟨y,4,none⟩=some (.slice (some ⟨bg,0,none⟩) d b4)/\w'.cell? ⟨bg,m,none⟩=some (.int .i64 a0))
    (first|(exact ⟨e1,e4,eb⟩)|(exact ⟨h0.cell e1 n1,h0.cell e4 ny,h0.cell eb nb⟩))
    (first
     | (go_at_call 254;refine h4.out.mono ?_;rintro e w7 ⟨rfl,x8,h0⟩))
   have y5:Hid (bH w7 L hb ⟨iH M.P o.blocks (m+1),M.ob⟩ X):=by
    show bH _ _ _ _ _;have:=bH.gJ (P:=iH M.P o.blocks m) (ob:=M.ob) HG.out.drew h0 x8;rw [y1.out] at this;exact this
   have y6:Hid (aI (fun k=>kK (L k)) w6 w7):=HO.out.drew.trans (bH.aCI (P:=iH M.P o.blocks m) (ob:=M.ob) HG.out.drew h0) (fun x hx=>.inl hx);clear h4 x8 h0 e1 e4 eb n1 nb ny d4;go_wp2;exact ⟨⟨m+1,by omega,by go_num,y5.out,y6.out⟩,by simp [intOf];omega⟩
  obtain rfl:m=d:=by omega
  have y0:¬ (m:Int)<(m:Int):=by omega
  have e0:wr.cell? ⟨hb,0,none⟩=some (.slice (some ⟨og,0,none⟩) 193 X.oc):=by rw [h1.out];exact HG.out.cells.1
  have ef:∀ j,wr.frozen? ⟨og,j,none⟩=false:=by rw [h1.out];exact HG.out.cells.2.2.2
  obtain ⟨q0,q1,q2,q3,q4⟩:=bH.iR (M:=⟨iH M.P o.blocks m,M.ob⟩) HG.out x3.out y7.out;rw [<-h1.out] at q0 q1 q2 q3 q4;have f0:=ef (i*5);have f1:=ef (i*5+1);have f2:=ef (i*5+2);have f3:=ef (i*5+3);have f4:=ef (i*5+4);have iE:Hid (∀ r,lM w L hb r (M.drop i o) (.returned r) (wr.setCells X.og (i*5) [.int .i64 0,.int .i64 0,.slice none 0 0,.slice none 0 0,.slice none 0 0])):=fun r=>by
   have hs:=bH.aOi (P:=iH M.P o.blocks m) (ob:=M.ob) HG.out x3.out;have z0:=bH.wJ (P:=iH M.P o.blocks m) (ob:=M.ob) HG.out [.int .i64 0,.int .i64 0,.slice none 0 0,.slice none 0 0,.slice none 0 0] (i*5);refine ⟨rfl,L,X,?_,fun k hk=>.inl hk,?_⟩
   ·unfold Hp.drop;rw [<-y4.out];exact hs
   refine ((h5.out.xA (S:=fun k=>L k≠none)).trans (HO.out.mono (fun x hx=>.inl (fun e=>by rw [e] at hx;rcases hx with h|h|h|h<;>cases h))) (fun x hx=>.inl hx)).trans z0 (fun x hx=>.inl (by rw [hx];simp))
  rw [<-h1.out] at iE;clear ef;go_wp2_with fail;go_end0;exact hR.out _ _ ⟨rfl,iE.out⟩
theorem Hp.aAC {M:Hp} {h k:Int}:M.refers h k=(decide (k≠h) && decide (h∈(M.refs k).1)):=by
 unfold Hp.refers Hp.refs
 cases M.ob k<;>simp
theorem Hp.aHv {M:Hp} {h:Int} (e:∀ k:Nat,k<192->M.refers h ((k:Int)+1)=false):M.held h=false:=by
 cases z:M.held h with
 | false=>rfl
 | true=>obtain ⟨k,d,y⟩:=Hp.rP.1 z;rw [e k d] at y;cases y
theorem Hp.qU {M:Hp} (y:M.Ok) (k:Int):(M.refs k).1.length<=48:=by
 unfold Hp.refs
 cases z:M.ob k with
 | none=>simp
 | some o=>have:=o.nG o.slots.length;have:=(y.th k o z).le;simp only [Th.vV];omega
theorem aDo (w:World) (h:bH w L hb M X) (hk:M.Ok) (x:Int):Calls prog 224 #[.pointer (some ⟨hb,0,none⟩),.int .i64 x] w (lM w L hb (.int .i64 (M.release x).1) (M.release x).2):=by
 refine aF fun R hR=>?_
 cases ho:M.ob x with
 | none=>
  have hr:M.release x=(3,M):=by unfold Hp.release;rw [ho]
  rw [hr] at hR;have HD:Hid (lM w L hb (.int .i64 3) M (.returned (.int .i64 3)) w):=lM.none0 h (Only.refl _ _);have h1:=lH w h hk x ho;clear h hk ho hr;go_in;go_wp2_with fail;refine h1.mono ?_;rintro e _ ⟨rfl,rfl⟩;go_wp2;exact hR.out _ _ HD.out
 | some o=>
  have hr:M.release x=if M.held x then (13,M) else (0,M.drop x o):=by unfold Hp.release;rw [ho]
  rw [hr] at hR;have h1:=lG w h hk x ho;have y3:Hid (1<=x/\x<=192):=by have:=hk.hr x o ho;exact ⟨by omega,by omega⟩
  have H:=aA h;have HK:=aA hk;have x2:=aA ho;clear h hk ho hr;go_in;go_wp2_with fail;refine h1.mono ?_;rintro e _ ⟨rfl,rfl⟩;clear h1;go_wp2;go_loopw [6] (fun iv wr=>∃ k:Nat,k<=192/\iv=.int .i64 ((k:Int)+1)/\Only [] w wr/\Hid (∀ j:Nat,j<k->M.refers x ((j:Int)+1)=false)) (fun iv _=>193 - (intOf iv).toNat)
  case atStart=>exact ⟨0,by omega,rfl,Only.refl _ _,fun j hj=>by omega⟩
  case round=>
   obtain ⟨k,hk,rfl,ho,HF⟩:=hrel;have HG:=aA (H.out.aN ho);have HO:=aA ho;have c0:=HG.out.cells.1;clear ho
   by_cases y1:k<192
   ·have x1:(k:Int)+1<193:=by omega
    have y0:(0:Int)<=(k:Int)+1:=by omega
    have h4:=zB wr HG.out HK.out ((k:Int)+1);obtain ⟨z,hz⟩:∃ z:Int,z=(k:Int)+1:=⟨_,rfl⟩;have HZ:=aA hz;have y7:z<193:=by omega
    have y6:0<=z:=by omega
    rw [<-hz] at h4 ⊢;clear hz x1 y0;go_wp2_with fail;refine h4.mono ?_;rintro e w5 ⟨v,rfl,hi,h8⟩;obtain ⟨va,vc,rfl⟩:=hi.len;have x8:=Hp.qU HK.out z;have h0:∀ j,j<(M.refs z).1.length->∃ g,va=some ⟨g,0,none⟩/\w5.cell? ⟨g,j,none⟩=some (.int .i64 (gI (M.refs z).1 j)):=fun j hj=>by
     rcases hi.form with ⟨_,e⟩|⟨g,cap,e,_,_,_,hc⟩
     ·rw [e] at hj;simp at hj
     cases e;exact ⟨g,rfl,hc j hj⟩
    have x4:=aA h0;have h2:Hid (Only [] w w5):=HO.out.trans h8 (by simp);obtain ⟨e1,h7⟩:∃ y,y=(M.refs z).2:=⟨_,rfl⟩;rw [<-h7];obtain ⟨n,hn⟩:∃ y,y=(M.refs z).1.length:=⟨_,rfl⟩;have HN:=aA hn;rw [<-hn] at x8 ⊢;clear h4 hi h8 h0 h7 c0 hn;go_wp2;go_loopw [9] (fun iv wr=>∃ m:Nat,m<=n/\iv=.int .i64 m/\w5=wr/\Hid (∀ j:Nat,j<m->z≠x->gI (M.refs z).1 j≠x)) (fun iv _=>n - (intOf iv).toNat)
    case atStart=>exact ⟨0,by omega,rfl,rfl,fun j hj=>by omega⟩
    case round=>
     obtain ⟨m,hm,rfl,rfl,h5⟩:=hrel
     by_cases y5:m<n
     ·have x5:(m:Int)<n:=by omega
      have y4:(0:Int)<=m:=by omega
      obtain ⟨g,rfl,x9⟩:=x4.out m (by have:=HN.out;omega)
      by_cases d:z=x
      ·have x7:(z != x)=false:=by simp [d]
       have x3:=aA d;have h3:Hid (M.refers x z=false):=by rw [d];exact Hp.xR
       clear d;go_wp2_with fail;refine ⟨⟨k+1,by omega,by have:=HZ.out;go_num,h2.out,fun j hj=>?_⟩,by have:=HZ.out;simp [intOf];omega⟩
       by_cases e:j=k
       ·rw [e,<-HZ.out];exact h3.out
       exact HF.out j (by omega)
      have x7:(z != x)=true:=by simp [d]
      obtain ⟨y,hy⟩:∃ y,y=gI (M.refs z).1 m:=⟨_,rfl⟩;rw [<-hy] at x9;have HY:=aA hy
      by_cases h9:y=x
      ·subst h9;have HH:Hid (M.held y=true):=Hp.rP.2 ⟨k,y1,by rw [<-HZ.out,Hp.aAC];simp [d];exact kR.2 ⟨m,by have:=HN.out;omega,HY.out.symm⟩⟩;have HD:Hid (lM w L hb (.int .i64 13) M (.returned (.int .i64 13)) w5):=lM.none0 H.out h2.out;clear hy d;go_wp2_with fail;refine hR.out _ _ ?_;rw [HH.out];exact HD.out
      have x3:=aA d;clear hy d;go_wp2_with fail;refine ⟨⟨m+1,by omega,by go_num,by trivial,fun j hj y2=>?_⟩,by simp [intOf];omega⟩
      by_cases e:j=m
      ·rw [e,<-HY.out];exact h9
      exact h5.out j (by omega) y2
     obtain rfl:m=n:=by omega
     have x5:¬ (m:Int)<(m:Int):=by omega
     have h3:Hid (M.refers x z=false):=by
      show _=_;rw [Hp.aAC]
      by_cases e:z=x
      ·simp [e]
      have:¬ x∈(M.refs z).1:=fun hx=>by
       obtain ⟨j,hj,he⟩:=kR.1 hx;exact h5.out j (by rw [HN.out];exact hj) e he
      simp [this]
     go_wp2_with fail;refine ⟨⟨k+1,by omega,by have:=HZ.out;go_num,h2.out,fun j hj=>?_⟩,by have:=HZ.out;simp [intOf];omega⟩
     by_cases e:j=k
     ·rw [e,<-HZ.out];exact h3.out
     exact HF.out j (by omega)
   obtain rfl:k=192:=by omega
   have x6:M.held x=false:=Hp.aHv HF.out;rw [x6] at hR;have h6:=aKw wr HG.out HK.out x x2.out;clear HF;go_wp2_with fail;refine h6.mono ?_;rintro e w9 ⟨rfl,hd⟩;have HD:Hid (lM w L hb (.int .i64 0) (M.drop x o) (.returned (.int .i64 0)) w9):=by
    obtain ⟨_,L',X',q1,q2,q3⟩:=hd (.int .i64 0);exact ⟨rfl,L',X',q1,fun k hk=>by rcases q2 k hk with h|h;exact .inl h;exact .inr (Nat.le_trans HO.out.size h),HO.out.xA.trans q3 (fun x hx=>.inl hx)⟩
   clear hd h6;go_wp2;exact hR.out _ _ HD.out
end
section
variable {L:Nat->Option Gb} {hb:Nat} {M:Hp} {X:GX}
theorem aRk (w:World) (x s y:Int):Calls prog 144 #[.pointer none,.int .i64 x,.int .i64 s,.int .i64 y] w (aO w (.int .i64 1)):=by
 refine aF fun R d=>?_;have z:=aKi w x s;go_in;go_wp2_with fail;refine z.mono ?_;rintro e _ ⟨rfl,rfl⟩;go_wp2;exact d.out _ _ ⟨rfl,rfl⟩
theorem aMG (w:World) (h:bH w L hb M X) (z:M.Ok) {i:Nat} (hi:i<193) {o:Th} (ho:M.ob (i:Int)=some o) {s:Nat} (hs:s<o.slots.length) {y:Int} (hf:M.fits (gB o.refs s) y=true) {g n cap:Nat} (hv:X.sv i=.slice (some ⟨g,0,none⟩) n cap) :
  Calls prog 214 #[.pointer (some ⟨hb,0,none⟩),.int .i64 i] (w.setCell ⟨g,s,none⟩ (.int .i64 y)) (fun e w'=>e=.returned (.tuple #[])/\
   ∀ r,lM w L hb r ⟨(M.P.setCell (o.addr s) y).2,dZ M.ob i (some (o.put s y))⟩ (.returned r) w'):=by
 have h2:=z.put ho hs hf;have h0:dZ M.ob (i:Int) (some (o.put s y)) (i:Int)=some (o.put s y):=aY _ _ _;have hg:=bH.setSlot (P:=M.P) (ob:=M.ob) h ho hv s y;have h1:L g=some (.sl i):=(h.th i o ho).Ls g (by rw [hv];rfl);refine (aBJ _ hg z.p hi h0 (h2.aMr h0)).mono ?_;rintro e w' ⟨rfl,d,h3⟩;rw [z.aOH ho hs hf] at d;exact ⟨rfl,fun r=>⟨rfl,L,X,d,fun k z=>.inl z,((aI.refl _ w).set (p:=⟨g,s,none⟩) (.inl (by rw [h1];simp)) _).trans h3 (fun x hx=>.inl (fun e=>by rw [e] at hx;rcases hx with h|h|h|h<;>cases h))⟩⟩
theorem aFT (w:World) (h:bH w L hb M X) (hk:M.Ok) (x s y:Int):Calls prog 144 #[.pointer (some ⟨hb,0,none⟩),.int .i64 x,.int .i64 s,.int .i64 y] w (lM w L hb (.int .i64 (M.set x s y).1) (M.set x s y).2):=by
 refine aF fun R hR=>?_;have HD:Hid (∀ r,lM w L hb r M (.returned r) w):=fun r=>lM.none0 h (Only.refl _ _)
 cases ho:M.ob x with
 | none=>
  have hr:M.set x s y=(3,M):=by unfold Hp.set;rw [ho]
  rw [hr] at hR;have h1:=uO w h hk x s ho;clear h hk ho hr;go_in;go_wp2_with fail;refine h1.mono ?_;rintro e _ ⟨rfl,rfl⟩;go_wp2;exact hR.out _ _ (HD.out _)
 | some o=>
  by_cases h3:s<0\/(o.slots.length:Int)<=s
  ·have hr:M.set x s y=(1,M):=by unfold Hp.set;rw [ho];exact if_pos h3
   rw [hr] at hR;have h1:=zA w h hk x s ho h3;clear h hk ho hr h3;go_in;go_wp2_with fail;refine h1.mono ?_;rintro e _ ⟨rfl,rfl⟩;go_wp2;exact hR.out _ _ (HD.out _)
  have h1:=aBH w h hk x s ho h3;obtain ⟨m,rfl⟩:∃ m:Nat,s=m:=⟨s.toNat,by omega⟩;have hm:m<o.slots.length:=by omega
  have hr:M.set x m y=if M.fits (gB o.refs m) y then (0,⟨(M.P.setCell (o.addr m) y).2,dZ M.ob x (some (o.put m y))⟩) else (1,M):=by
   unfold Hp.set;rw [ho];show (if _ then _ else _)=_;rw [if_neg h3,Int.toNat_natCast]
  rw [hr] at hR;obtain ⟨i,rfl,hi,x0,x1⟩:=hk.idx ho;have c0:=h.cells.1;obtain ⟨_,_,c2,c3,_⟩:=h.iR hi ho;have th:=h.th (i:Int) o ho;have x7:=(hk.th (i:Int) o ho).rl;obtain ⟨rg,rc,re,h7⟩:=th.rb.cellsOf (by omega);obtain ⟨sg,sc,se,x2⟩:∃ g cap,X.sv i=.slice (some ⟨g,0,none⟩) o.slots.length cap/\∀ j,j<o.slots.length->w.cell? ⟨g,j,none⟩=some (.int .i64 (gI o.slots j)):=by
   rcases th.sl.form with ⟨_,e⟩|⟨g,cap,e,_,_,_,hc⟩
   ·rw [e] at hm;simp at hm
   exact ⟨g,cap,e,hc⟩
  have x8:w.frozen? ⟨sg,m,none⟩=false:=by
   have:=th.sl;rw [se] at this;obtain ⟨_,_,cs,x4,_⟩:=this.row;exact x4.free m
  rw [re] at c2;rw [se] at c3;have cr:=h7 m (by omega);have cs:=x2 m hm;have hn:=fun (wx:World)=>Lib.run_eql_slice_nil (P:=prog) wx 50 4 (some ⟨rg,0,none⟩) o.refs.length rc 0 0 Tryz.underlying50;have h4:=aBK w h hk y;have h2:Hid (M.fits (gB o.refs m) y=true->Calls prog 214 #[.pointer (some ⟨hb,0,none⟩),.int .i64 i] (w.setCell ⟨sg,m,none⟩ (.int .i64 y)) (fun e w'=>e=.returned (.tuple #[])/\
    ∀ r,lM w L hb r ⟨(M.P.setCell (o.addr m) y).2,dZ M.ob i (some (o.put m y))⟩ (.returned r) w')):=fun hf=>aMG w h hk hi ho hm hf se
  have x9:(0:Int)<=(m:Int):=by omega
  have x5:(m:Int)<(o.slots.length:Int):=by omega
  have x6:(m:Int)<(o.refs.length:Int):=by omega
  obtain ⟨ri,h8⟩:∃ z,z=gB o.refs m:=⟨_,rfl⟩;rw [<-h8] at cr h2 hR;obtain ⟨og,h6⟩:∃ z,z=X.og:=⟨_,rfl⟩;rw [<-h6] at c0 c2 c3;obtain ⟨rn,h9⟩:∃ z,z=o.refs.length:=⟨_,rfl⟩;obtain ⟨sn,x3⟩:∃ z,z=o.slots.length:=⟨_,rfl⟩;rw [<-h9] at c2 x6 hn;rw [<-x3] at c3 x5;clear h hk ho hr h3 re se h7 x2 th h8 h6 h9 x3 hi x7 hm
  cases ri with
  | false=>
   have d:M.fits false y=iT y:=rfl;rw [d] at hR h2
   by_cases w1:y < -2147483648
   ·have HW:Hid (iT y=false):=by show _=_;unfold iT;simp;omega
    clear d h4 h2;go_in;go_wp2_with fail;refine h1.mono ?_;rintro e _ ⟨rfl,rfl⟩;go_wp2_with fail;refine hR.out _ _ ?_;rw [HW.out];exact HD.out _
   by_cases w2:2147483647<y
   ·have HW:Hid (iT y=false):=by show _=_;unfold iT;simp;omega
    clear d h4 h2;go_in;go_wp2_with fail;refine h1.mono ?_;rintro e _ ⟨rfl,rfl⟩;go_wp2_with fail;refine hR.out _ _ ?_;rw [HW.out];exact HD.out _
   have HW:Hid (iT y=true):=by show _=_;unfold iT;simp;omega
   have HL:=aA (h2.out HW.out);clear d h4 h2;go_in;go_wp2_with fail;refine h1.mono ?_;rintro e _ ⟨rfl,rfl⟩;go_wp2_with fail;refine HL.out.mono ?_;rintro e w9 ⟨rfl,hd⟩;have h5:=aA hd;clear hd;go_wp2_with fail;refine hR.out _ _ ?_;rw [HW.out];exact h5.out _
  | true=>
   have d:M.fits true y=(decide (y=0) || (M.ob y).isSome):=rfl;rw [d] at hR h2
   by_cases y0:y=0
   ·subst y0;have HW:Hid ((decide ((0:Int)=0) || (M.ob 0).isSome)=true):=by show _=_;simp
    have HL:=aA (h2.out HW.out);clear d h4 h2;go_in;go_wp2_with fail;refine h1.mono ?_;rintro e _ ⟨rfl,rfl⟩;go_wp2_with fail;refine HL.out.mono ?_;rintro e w9 ⟨rfl,hd⟩;have h5:=aA hd;clear hd;go_wp2_with fail;refine hR.out _ _ ?_;rw [HW.out];exact h5.out _
   cases h0:(M.ob y).isSome with
   | true=>
    rw [h0] at h4;have HW:Hid ((decide (y=0) || (M.ob y).isSome)=true):=by show _=_;rw [h0];simp
    have HL:=aA (h2.out HW.out);clear d h2 h0;go_in;go_wp2_with fail;refine h1.mono ?_;rintro e _ ⟨rfl,rfl⟩;go_wp2_with fail;refine h4.mono ?_;rintro e _ ⟨rfl,rfl⟩;go_wp2_with fail;refine HL.out.mono ?_;rintro e w9 ⟨rfl,hd⟩;have h5:=aA hd;clear hd;go_wp2_with fail;refine hR.out _ _ ?_;rw [HW.out];exact h5.out _
   | false=>
    rw [h0] at h4;have HW:Hid ((decide (y=0) || (M.ob y).isSome)=false):=by show _=_;rw [h0];simp [y0]
    clear d h2 h0;go_in;go_wp2_with fail;refine h1.mono ?_;rintro e _ ⟨rfl,rfl⟩;go_wp2_with fail;refine h4.mono ?_;rintro e _ ⟨rfl,rfl⟩;go_wp2_with fail;refine hR.out _ _ ?_;rw [HW.out];exact HD.out _
theorem aKo (w w3:World) (h0:aI (fun k=>L k≠none) w w3) (h:bH w3 L hb ⟨M.P.move.2.2.2,M.ob⟩ X) (z:M.Ok) (he:M.P.move.2.2.1=0) {i:Nat} (hi:i<193) {o:Th} (d:M.ob (i:Int)=some o) {m:Nat} (hm:m<o.blocks.length) (hf:gI o.blocks m=M.P.move.1) (y:∀ j,j<m->gI o.blocks j≠M.P.move.1) {g n cap:Nat} (hv:X.bv i=.slice (some ⟨g,0,none⟩) n cap) :
  Calls prog 214 #[.pointer (some ⟨hb,0,none⟩),.int .i64 i] (w3.setCell ⟨g,m,none⟩ (.int .i64 M.P.move.2.1)) (fun e w'=>e=.returned (.tuple #[])/\
   lM w L hb (.tuple #[.int .i64 M.move.1,.int .i64 M.move.2.1]) M.move.2.2 (.returned (.tuple #[.int .i64 i,.int .i64 0])) w'):=by
 have h3:o.place M.P.move.1=m:=kV hm (by simp [hf]) (fun j hj=>by have:=y j hj;simpa using this);have h8:o.place M.P.move.1<o.blocks.length:=by omega
 have h2:=tV z he d h8;rw [h3] at h2;have h5:=z.fD he d hm hf;have h6:(Hp.fD M.P.move.2.2.2 M.ob i o m M.P.move.2.1).ob (i:Int)=some (o.moved m M.P.move.2.1):=aY _ _ _;have hg:=bH.setBlock (P:=M.P.move.2.2.2) (ob:=M.ob) h d hv m M.P.move.2.1;have h4:L g=some (.bl i):=(h.th i o d).Lb g (by rw [hv];rfl);refine (aBJ _ hg z.p.move.1 hi (aY _ _ _) (h5.aMr h6)).mono ?_;rintro e w' ⟨rfl,h1,h7⟩;rw [z.aJR he d hm hf] at h1;rw [h2];exact ⟨rfl,rfl,L,X,h1,fun k z=>.inl z,(h0.set (p:=⟨g,m,none⟩) (.inl (by show L g≠none;rw [h4];simp)) _).trans h7 (fun x hx=>.inl (fun e=>by rw [e] at hx;rcases hx with h|h|h|h<;>cases h))⟩
theorem aKn (w:World) (h:bH w L hb M X) (hk:M.Ok) :
  Calls prog 228 #[.pointer (some ⟨hb,0,none⟩)] w (lM w L hb (.tuple #[.int .i64 M.move.1,.int .i64 M.move.2.1]) M.move.2.2):=by
 refine aF fun R hR=>?_;have h1:=fM w h;have c1:=h.cells.2.1;have x7:=xQ w X.q X.k X.c X.l M.P h.pool hk.p;have y2:Hid (∀ w3,aI (fun k=>L k≠none) w w3->bH w3 L hb ⟨M.P.move.2.2.2,M.ob⟩ X->M.P.move.2.2.1=0->∀ (i:Nat),i<193->∀ (o:Th),M.ob (i:Int)=some o->∀ m,m<o.blocks.length->gI o.blocks m=M.P.move.1->(∀ j,j<m->gI o.blocks j≠M.P.move.1)->∀ (g n cap:Nat),X.bv i=.slice (some ⟨g,0,none⟩) n cap->
  Calls prog 214 #[.pointer (some ⟨hb,0,none⟩),.int .i64 i] (w3.setCell ⟨g,m,none⟩ (.int .i64 M.P.move.2.1)) (fun e w'=>e=.returned (.tuple #[])/\
   lM w L hb (.tuple #[.int .i64 M.move.1,.int .i64 M.move.2.1]) M.move.2.2 (.returned (.tuple #[.int .i64 i,.int .i64 0])) w')):=
  fun w3 a1 a2 a3 i a4 o a5 m a6 a7 a8 g n cap a9=>aKo w w3 a1 a2 hk a3 a4 a5 a6 a7 a8 a9
 obtain ⟨fr,x4⟩:∃ z,z=M.P.move.1:=⟨_,rfl⟩;obtain ⟨b4,y7⟩:∃ z,z=M.P.move.2.1:=⟨_,rfl⟩;obtain ⟨er,x3⟩:∃ z,z=M.P.move.2.2.1:=⟨_,rfl⟩;obtain ⟨Q,hQ⟩:∃ z,z=M.P.move.2.2.2:=⟨_,rfl⟩;rw [<-x4,<-y7,<-x3,<-hQ] at x7 y2;have H:=aA h;have HK:=aA hk;have z3:=aA x4;have h5:=aA x3;have HQ:=aA hQ;clear h hk x4 y7 x3 hQ;go_in;go_wp2_with fail;refine h1.mono ?_;rintro e _ ⟨rfl,rfl⟩;clear h1;go_wp2_with fail;refine x7.mono ?_;rintro e w3 ⟨rfl,y6,x8⟩;have h0:Hid (bH w3 L hb ⟨Q,M.ob⟩ X):=bH.gJ (P:=M.P) (ob:=M.ob) H.out x8 y6;have h8:Hid (aI (fun k=>L k≠none) w w3):=(bH.aCI (P:=M.P) (ob:=M.ob) H.out x8).mono (fun x hx=>.inl (fun e=>by rw [e] at hx;rcases hx with h|h|h|h<;>cases h))
 clear x7 y6 x8 c1
 by_cases he:er=0
 ·subst he;have y5:bH w3 L hb ⟨Q,M.ob⟩ X:=h0.out;have c0:=y5.cells.1;obtain ⟨og,x9⟩:∃ z,z=X.og:=⟨_,rfl⟩;rw [<-x9] at c0;have y1:=aA x9;clear y5 x9;go_wp2;go_loopw [7] (fun iv wr=>∃ k:Nat,k<=192/\iv=.int .i64 ((k:Int)+1)/\w3=wr/\Hid (∀ j:Nat,j<k->∀ o,M.ob ((j:Int)+1)=some o->¬ o.place fr<o.blocks.length)) (fun iv _=>193 - (intOf iv).toNat)
  case atStart=>exact ⟨0,by omega,rfl,rfl,fun j hj=>by omega⟩
  case round=>
   obtain ⟨k,hk,rfl,rfl,HF⟩:=hrel
   by_cases a0:k<192
   ·have z7:Hid (((k+1:Nat):Int)=(k:Int)+1):=by show _=_;omega
    obtain ⟨i,hi⟩:∃ z:Nat,z=k+1:=⟨_,rfl⟩;have HI:=aA hi;have b3:(i:Int)<193:=by omega
    have b2:(0:Int)<=i:=by omega
    have x5:i<193:=by omega
    have x6:((k:Int)+1)=(i:Int):=by omega
    rw [x6];have h3:=aA x6;clear hi x6
    cases d:M.ob (i:Int) with
    | none=>
     have c4:=h0.out.obj x5 (j:=4) (by omega);rw [show (⟨Q,M.ob⟩:Hp).ob (i:Int)=none from d,<-y1.out] at c4;replace c4:w3.cell? ⟨og,i*5+4,none⟩=some (.slice none 0 0):=c4;have h7:Hid (∀ o,M.ob ((k:Int)+1)=some o->¬ o.place fr<o.blocks.length):=fun o ho=>by rw [h3.out,d] at ho;cases ho
     clear d;go_wp2;go_loopw [9] (fun iv wr=>iv=.int .i64 0/\w3=wr) (fun iv _=>0)
     case atStart=>exact ⟨rfl,rfl⟩
     case round=>
      obtain ⟨rfl,rfl⟩:=hrel;go_wp2_with fail;refine ⟨⟨k+1,by omega,by have:=h3.out;go_num,by trivial,fun j hj=>?_⟩,by have:=h3.out;simp [intOf];omega⟩
      by_cases e:j=k
      ·rw [e];exact h7.out
      exact HF.out j (by omega)
    | some o=>
     obtain ⟨_,_,_,_,c4⟩:=bH.iR (M:=⟨Q,M.ob⟩) h0.out x5 d;have h9:=h0.out.th (i:Int) o d;obtain ⟨bg,bc,be,y3⟩:=h9.bl.cellsOf (HK.out.aAu d).1;rw [be,<-y1.out] at c4;have y4:∀ j,w3.frozen? ⟨bg,j,none⟩=false:=by
      have:=h9.bl;rw [be] at this;obtain ⟨_,_,cs,y9,_⟩:=this.row;exact fun j=>y9.free j
     obtain ⟨bn,x2⟩:∃ z,z=o.blocks.length:=⟨_,rfl⟩;have h4:=aA x2;have z8:bn<=7:=by have:=(HK.out.aAu d).2.1;omega
     have z1:=aA be;have z0:=aA y3;have z4:=aA y4;have y0:=aA d;rw [<-x2] at c4;clear h9 be y3 y4 x2 d;go_wp2;go_loopw [9] (fun iv wr=>∃ m:Nat,m<=bn/\iv=.int .i64 m/\w3=wr/\Hid (∀ j:Nat,j<m->gI o.blocks j≠fr)) (fun iv _=>bn - (intOf iv).toNat)
     case atStart=>exact ⟨0,by omega,rfl,rfl,fun j hj=>by omega⟩
     case round=>
      obtain ⟨m,hm,rfl,rfl,h6⟩:=hrel
      by_cases b1:m<bn
      ·have z5:(m:Int)<bn:=by omega
       have b0:(0:Int)<=m:=by omega
       have z6:=z0.out m (by have:=h4.out;omega);have z9:=z4.out m;obtain ⟨y,hy⟩:∃ y,y=gI o.blocks m:=⟨_,rfl⟩;rw [<-hy] at z6;have HY:=aA hy
       by_cases y8:y=fr
       ·subst y8;have HL:=aA (y2.out w3 h8.out h0.out (by trivial) i x5 o y0.out m (by have:=h4.out;omega) HY.out.symm h6.out bg _ bc z1.out);clear hy;go_wp2_with fail;refine HL.out.mono ?_;rintro e w9 ⟨rfl,hd⟩;have z2:=aA hd;clear hd;go_wp2;exact hR.out _ _ z2.out
       clear hy;go_wp2_with fail;refine ⟨⟨m+1,by omega,by go_num,by trivial,fun j hj=>?_⟩,by simp [intOf];omega⟩
       by_cases e:j=m
       ·rw [e,<-HY.out];exact y8
       exact h6.out j (by omega)
      obtain rfl:m=bn:=by omega
      have z5:¬ (m:Int)<(m:Int):=by omega
      have h7:Hid (∀ o,M.ob ((k:Int)+1)=some o->¬ o.place fr<o.blocks.length):=fun o' ho hp=>by
       rw [h3.out,y0.out] at ho
       cases ho
       exact h6.out _ (by rw [h4.out];exact hp) (Th.oJ hp)
      go_wp2_with fail;refine ⟨⟨k+1,by omega,by have:=h3.out;go_num,by trivial,fun j hj=>?_⟩,by have:=h3.out;simp [intOf];omega⟩
      by_cases e:j=k
      ·rw [e];exact h7.out
      exact HF.out j (by omega)
   obtain rfl:k=192:=by omega
   have HM:Hid (M.move=(0,0,⟨M.P.move.2.2.2,M.ob⟩)):=yK h5.out.symm (fun h o ho=>by
    have:=HK.out.hr h o ho;have h2:=HF.out (h.toNat - 1) (by omega) o (by rw [show (((h.toNat - 1:Nat):Int)+1)=h by omega];exact ho);rw [<-z3.out];exact h2)
   have HD:Hid (lM w L hb (.tuple #[.int .i64 0,.int .i64 0]) ⟨M.P.move.2.2.2,M.ob⟩ (.returned (.tuple #[.int .i64 0,.int .i64 0])) w3):=⟨rfl,L,X,by rw [<-HQ.out];exact h0.out,fun k hk=>.inl hk,h8.out⟩;clear HF;go_wp2_with fail;refine hR.out _ _ ?_;rw [HM.out];exact HD.out
 have x1:=aFJ (M:=M) (by rw [<-h5.out];exact he);have HM:Hid (M.move=(0,er,M)):=by show _=_;rw [x1.1,h5.out]
 have HD:Hid (lM w L hb (.tuple #[.int .i64 0,.int .i64 er]) M (.returned (.tuple #[.int .i64 0,.int .i64 er])) w3):=⟨rfl,L,X,by have:=h0.out;rw [HQ.out,x1.2] at this;exact this,fun k hk=>.inl hk,h8.out⟩;clear x1;go_wp2_with fail;refine hR.out _ _ ?_;rw [HM.out];exact HD.out
end
end Go.Proofs.YthflghdaejbdkaaGreat
