/- Lemmas of this claim. -/
import Derived.Test.YthflghdaejbdkaaGreatXdRObjL
namespace Go.Proofs.YthflghdaejbdkaaGreat
open _root_.Go.Proofs.Tryz (prog)
open Go.RowKit Go.Maps
set_option maxHeartbeats 6400000
set_option maxRecDepth 100000
set_option linter.unusedVariables false
section
variable {L:Nat->Option Gb} {hb:Nat} {M:Hp} {X:GX}
theorem aJg (w:World) (h:bF w L hb M X) (hk:M.Ok) (x:Int) {o:Th} (ho:M.ob x=some o) :
  Calls prog 250 #[.pointer (some ⟨hb,0,none⟩),.int .i64 x] w (fun e w'=>e=.returned (.tuple #[])/\∀ r,lF w L hb r (M.drop x o) (.returned r) w'):=by
 refine aF fun R hR=>?_;have h2:=h.cells.1;obtain ⟨i,rfl,hi,x0,x1⟩:=hk.idx ho;obtain ⟨c0,c1,c2,c3,c4⟩:=h.iJ hi ho;have lo:=hk.aKU ho;have th:=h.th (i:Int) o ho;obtain ⟨a2,b2,e2⟩:=th.rb.len;obtain ⟨a3,b3,e3⟩:=th.sl.len;obtain ⟨bg,b4,e4,hbc⟩:=th.bl.cellsOf lo.b1;have HLB:Hid (L bg=some (.bl i)):=th.Lb bg (by rw [e4];rfl);rw [e2] at c2;rw [e3] at c3;rw [e4] at c4;obtain ⟨bn,hbn⟩:∃ z,z=o.blocks.length:=⟨_,rfl⟩;rw [<-hbn] at c4 hbc;have HBC:=aA hbc;have HBN:=aA hbn;have HB7:Hid (1<=bn/\bn<=7):=by have:=lo.b1;have:=lo.b7;exact ⟨by omega,by omega⟩
 have H:=aA h;have HK:=aA hk;have HOB:=aA ho;have HIN:=aA hi;generalize o.kind=kd at*;generalize o.cls=cl at*;generalize o.refs.length=rn at*;generalize o.slots.length=n at*;obtain ⟨og,hog⟩:∃ z,z=X.og:=⟨_,rfl⟩;rw [<-hog] at h2 c0 c1 c2 c3 c4;have HOG:=aA hog;have aJY:Hid (Row (w.alloc (.cells #[.int .i64 kd,.int .i64 cl,.slice a2 rn b2,.slice a3 n b3,.slice (some ⟨bg,0,none⟩) bn b4] 217)) w.heap.size 217 [.int .i64 kd,.int .i64 cl,.slice a2 rn b2,.slice a3 n b3,.slice (some ⟨bg,0,none⟩) bn b4]):=Row.new w _ [_,_,_,_,_];have HO6:Hid (Only [] w (w.alloc (.cells #[.int .i64 kd,.int .i64 cl,.slice a2 rn b2,.slice a3 n b3,.slice (some ⟨bg,0,none⟩) bn b4] 217))):=(Only.refl [] w).alloc _;clear th h hk ho lo e2 e3 e4 hbc hbn hi hog;go_in;go_wp2_with fail;generalize (w.alloc (.cells #[.int .i64 kd,.int .i64 cl,.slice a2 rn b2,.slice a3 n b3,.slice (some ⟨bg,0,none⟩) bn b4] 217))=w6 at*;obtain ⟨y,hy⟩:∃ y,y=w.heap.size:=⟨_,rfl⟩;rw [<-hy] at aJY ⊢;have HLY:Hid (L y=none):=by
  show _=_
  cases e:L y with
  | none=>rfl
  | some ℓ=>have:=H.out.lt y (by rw [e];simp);omega
 clear h2 c0 c1 c2 c3 c4 hy;have HG6:Hid (bF w6 L hb ⟨iE M.P o.blocks 0,M.ob⟩ X):=H.out.aN HO6.out;have N1:Hid (hb∉[X.k,X.c,X.l]):=bF.notP (P:=M.P) (ob:=M.ob) H.out H.out.Lm (by simp) (by simp) (by simp) (by simp);have NB:Hid (bg∉[X.k,X.c,X.l]):=bF.notP (P:=M.P) (ob:=M.ob) H.out HLB.out (by simp) (by simp) (by simp) (by simp);have NY:Hid (y∉[X.k,X.c,X.l]):=by
  have:=HLY.out;show _∉_;simp;refine ⟨?_,?_,?_⟩<;>(rintro rfl;first|(rw [H.out.Lk] at this;cases this)|(rw [H.out.Lc] at this;cases this)|(rw [H.out.Ll] at this;cases this))
 go_loopw [5] (fun iv wr=>∃ m:Nat,m<=bn/\iv=.int .i64 m/\bF wr L hb ⟨iE M.P o.blocks m,M.ob⟩ X/\aI (fun k=>kF (L k)) w6 wr) (fun iv _=>bn - (intOf iv).toNat)
 case atStart=>exact ⟨0,by omega,rfl,HG6.out,aI.refl _ _⟩
 case round=>
  clear HG6;obtain ⟨m,hm,rfl,hg,ho⟩:=hrel;have HG:=aA hg;have HO:=aA ho;have hyn:¬ kF (L y):=by rw [HLY.out];rintro (h|h|h|h)<;>cases h
  have hrow:=ho.row aJY.out hyn;have d4:wr.cell? ⟨y,4,none⟩=some (.slice (some ⟨bg,0,none⟩) bn b4):=hrow.cell 4 rfl;clear hg ho hyn hrow
  by_cases hlt:m<bn
  ·have hlt1:(m:Int)<(bn:Int):=by omega
   have hm0:(0:Int)<=(m:Int):=by omega
   have hm7:(m:Int)<=7:=by have:=HB7.out;omega
   have e1:wr.drew.cell? ⟨hb,1,none⟩=some (.pointer (some ⟨X.q,0,none⟩)):=HG.out.cells.2.1;have e4:wr.drew.cell? ⟨y,4,none⟩=some (.slice (some ⟨bg,0,none⟩) bn b4):=d4;have aRE:¬ kF (L bg):=by rw [HLB.out];rintro (h|h|h|h)<;>cases h
   have eb:wr.drew.cell? ⟨bg,m,none⟩=some (.int .i64 (gI o.blocks m)):=HO.out.cell (HO6.out.aQ (HBC.out m hlt)) aRE;have HPO:Hid ((iE M.P o.blocks m).ok):=(aAm HK.out.p o.blocks m).1;have HFR:=aA (aBO wr.drew X.q X.k X.c X.l (iE M.P o.blocks m) HG.out.drew.pool HPO.out (gI o.blocks m));obtain ⟨a0,ha0⟩:∃ z,z=gI o.blocks m:=⟨_,rfl⟩;rw [<-ha0] at HFR eb;have HA0:=aA ha0;have n1:=N1.out;have nb:=NB.out;have ny:=NY.out;clear ha0 aRE;go_wp2_with fail;go_region_held3 (fun w'=>w'.cell? ⟨hb,1,none⟩=some (.pointer (some ⟨X.q,0,none⟩))/\w'.cell? ⟨y,4,none⟩=some (.slice (some ⟨bg,0,none⟩) bn b4)/\w'.cell? ⟨bg,m,none⟩=some (.int .i64 a0))
    (first|(exact ⟨e1,e4,eb⟩)|(exact ⟨ho7.cell e1 n1,ho7.cell e4 ny,ho7.cell eb nb⟩))
    (first
     | (go_at_call 254;refine HFR.out.mono ?_;rintro e w7 ⟨rfl,hp7,ho7⟩))
   have HG7:Hid (bF w7 L hb ⟨iE M.P o.blocks (m+1),M.ob⟩ X):=by
    show bF _ _ _ _ _;have:=bF.fO (P:=iE M.P o.blocks m) (ob:=M.ob) HG.out.drew ho7 hp7;rw [HA0.out] at this;exact this
   have HO7:Hid (aI (fun k=>kF (L k)) w6 w7):=HO.out.drew.trans (bF.aBX (P:=iE M.P o.blocks m) (ob:=M.ob) HG.out.drew ho7) (fun x hx=>.inl hx);clear HFR hp7 ho7 e1 e4 eb n1 nb ny d4;go_wp2_with fail;exact ⟨⟨m+1,by omega,by go_num,HG7.out,HO7.out⟩,by simp [intOf];omega⟩
  obtain rfl:m=bn:=by omega
  have hlt1:¬ (m:Int)<(m:Int):=by omega
  have e0:wr.cell? ⟨hb,0,none⟩=some (.slice (some ⟨og,0,none⟩) 193 X.oc):=by rw [HOG.out];exact HG.out.cells.1
  have ef:∀ j,wr.frozen? ⟨og,j,none⟩=false:=by rw [HOG.out];exact HG.out.cells.2.2.2
  obtain ⟨q0,q1,q2,q3,q4⟩:=bF.iJ (M:=⟨iE M.P o.blocks m,M.ob⟩) HG.out HIN.out HOB.out;rw [<-HOG.out] at q0 q1 q2 q3 q4;have f0:=ef (i*5);have f1:=ef (i*5+1);have f2:=ef (i*5+2);have f3:=ef (i*5+3);have f4:=ef (i*5+4);have gU:Hid (∀ r,lF w L hb r (M.drop i o) (.returned r) (wr.setCells X.og (i*5) [.int .i64 0,.int .i64 0,.slice none 0 0,.slice none 0 0,.slice none 0 0])):=fun r=>by
   have hs:=bF.aMG (P:=iE M.P o.blocks m) (ob:=M.ob) HG.out HIN.out;have hoo:=bF.vH (P:=iE M.P o.blocks m) (ob:=M.ob) HG.out [.int .i64 0,.int .i64 0,.slice none 0 0,.slice none 0 0,.slice none 0 0] (i*5);refine ⟨rfl,L,X,?_,fun k hk=>.inl hk,?_⟩
   ·unfold Hp.drop;rw [<-HBN.out];exact hs
   refine ((HO6.out.vW (S:=fun k=>L k≠none)).trans (HO.out.mono (fun x hx=>.inl (fun e=>by rw [e] at hx;rcases hx with h|h|h|h<;>cases h))) (fun x hx=>.inl hx)).trans hoo (fun x hx=>.inl (by rw [hx];simp))
  rw [<-HOG.out] at gU;clear ef;go_wp2_with fail;go_end0;exact hR.out _ _ ⟨rfl,gU.out⟩
theorem Hp.zW {M:Hp} {h k:Int}:M.refers h k=(decide (k≠h) && decide (h∈(M.refs k).1)):=by
 unfold Hp.refers Hp.refs
 cases M.ob k<;>simp
theorem Hp.aGr {M:Hp} {h:Int} (e:∀ k:Nat,k<192->M.refers h ((k:Int)+1)=false):M.held h=false:=by
 cases hh:M.held h with
 | false=>rfl
 | true=>obtain ⟨k,hk,h1⟩:=Hp.qU.1 hh;rw [e k hk] at h1;cases h1
theorem Hp.qE {M:Hp} (hk:M.Ok) (k:Int):(M.refs k).1.length<=48:=by
 unfold Hp.refs
 cases ho:M.ob k with
 | none=>simp
 | some o=>have:=o.mF o.slots.length;have:=(hk.th k o ho).le;simp only [Th.uP];omega
theorem aCB (w:World) (h:bF w L hb M X) (hk:M.Ok) (x:Int):Calls prog 224 #[.pointer (some ⟨hb,0,none⟩),.int .i64 x] w (lF w L hb (.int .i64 (M.release x).1) (M.release x).2):=by
 refine aF fun R hR=>?_
 cases ho:M.ob x with
 | none=>
  have hr:M.release x=(3,M):=by unfold Hp.release;rw [ho]
  rw [hr] at hR;have HD:Hid (lF w L hb (.int .i64 3) M (.returned (.int .i64 3)) w):=lF.none0 h (Only.refl _ _);have h1:=kW w h hk x ho;clear h hk ho hr;go_in;go_wp2_with fail;refine h1.mono ?_;rintro e _ ⟨rfl,rfl⟩;go_wp2_with fail;exact hR.out _ _ HD.out
 | some o=>
  have hr:M.release x=if M.held x then (13,M) else (0,M.drop x o):=by unfold Hp.release;rw [ho]
  rw [hr] at hR;have h1:=kV w h hk x ho;have HX1:Hid (1<=x/\x<=192):=by have:=hk.hr x o ho;exact ⟨by omega,by omega⟩
  have H:=aA h;have HK:=aA hk;have HOB:=aA ho;clear h hk ho hr;go_in;go_wp2_with fail;refine h1.mono ?_;rintro e _ ⟨rfl,rfl⟩;clear h1;go_wp2_with fail;go_loopw [6] (fun iv wr=>∃ k:Nat,k<=192/\iv=.int .i64 ((k:Int)+1)/\Only [] w wr/\Hid (∀ j:Nat,j<k->M.refers x ((j:Int)+1)=false)) (fun iv _=>193 - (intOf iv).toNat)
  case atStart=>exact ⟨0,by omega,rfl,Only.refl _ _,fun j hj=>by omega⟩
  case round=>
   obtain ⟨k,hk,rfl,ho,HF⟩:=hrel;have HG:=aA (H.out.aN ho);have HO:=aA ho;have c0:=HG.out.cells.1;clear ho
   by_cases hlt:k<192
   ·have hlt1:(k:Int)+1<193:=by omega
    have hk0:(0:Int)<=(k:Int)+1:=by omega
    have hrf:=xZ wr HG.out HK.out ((k:Int)+1);obtain ⟨z,hz⟩:∃ z:Int,z=(k:Int)+1:=⟨_,rfl⟩;have HZ:=aA hz;have hz1:z<193:=by omega
    have hz0:0<=z:=by omega
    rw [<-hz] at hrf ⊢;clear hz hlt1 hk0;go_wp2_with fail;refine hrf.mono ?_;rintro e w5 ⟨v,rfl,hi,ho5⟩;obtain ⟨va,vc,rfl⟩:=hi.len;have aSD:=Hp.qE HK.out z;have hcell:∀ j,j<(M.refs z).1.length->∃ g,va=some ⟨g,0,none⟩/\w5.cell? ⟨g,j,none⟩=some (.int .i64 (gI (M.refs z).1 j)):=fun j hj=>by
     rcases hi.form with ⟨_,e⟩|⟨g,cap,e,_,_,_,hc⟩
     ·rw [e] at hj;simp at hj
     cases e;exact ⟨g,rfl,hc j hj⟩
    have aRl:=aA hcell;have HO5:Hid (Only [] w w5):=HO.out.trans ho5 (by simp);obtain ⟨e1,he1⟩:∃ y,y=(M.refs z).2:=⟨_,rfl⟩;rw [<-he1];obtain ⟨n,hn⟩:∃ y,y=(M.refs z).1.length:=⟨_,rfl⟩;have HN:=aA hn;rw [<-hn] at aSD ⊢;clear hrf hi ho5 hcell he1 c0 hn;go_wp2_with fail;go_loopw [9] (fun iv wr=>∃ m:Nat,m<=n/\iv=.int .i64 m/\w5=wr/\Hid (∀ j:Nat,j<m->z≠x->gI (M.refs z).1 j≠x)) (fun iv _=>n - (intOf iv).toNat)
    case atStart=>exact ⟨0,by omega,rfl,rfl,fun j hj=>by omega⟩
    case round=>
     obtain ⟨m,hm,rfl,rfl,HF2⟩:=hrel
     by_cases hmn:m<n
     ·have aQt:(m:Int)<n:=by omega
      have hm0:(0:Int)<=m:=by omega
      obtain ⟨g,rfl,hcm⟩:=aRl.out m (by have:=HN.out;omega)
      by_cases hzx:z=x
      ·have aSf:(z != x)=false:=by simp [hzx]
       have HZX:=aA hzx;have aRb:Hid (M.refers x z=false):=by rw [hzx];exact Hp.wK
       clear hzx;go_wp2_with fail;refine ⟨⟨k+1,by omega,by have:=HZ.out;go_num,HO5.out,fun j hj=>?_⟩,by have:=HZ.out;simp [intOf];omega⟩
       by_cases e:j=k
       ·rw [e,<-HZ.out];exact aRb.out
       exact HF.out j (by omega)
      have aSf:(z != x)=true:=by simp [hzx]
      obtain ⟨y,hy⟩:∃ y,y=gI (M.refs z).1 m:=⟨_,rfl⟩;rw [<-hy] at hcm;have HY:=aA hy
      by_cases hyx:y=x
      ·subst hyx;have HH:Hid (M.held y=true):=Hp.qU.2 ⟨k,hlt,by rw [<-HZ.out,Hp.zW];simp [hzx];exact jQ.2 ⟨m,by have:=HN.out;omega,HY.out.symm⟩⟩;have HD:Hid (lF w L hb (.int .i64 13) M (.returned (.int .i64 13)) w5):=lF.none0 H.out HO5.out;clear hy hzx;go_wp2_with fail;refine hR.out _ _ ?_;rw [HH.out];exact HD.out
      have HZX:=aA hzx;clear hy hzx;go_wp2_with fail;refine ⟨⟨m+1,by omega,by go_num,by trivial,fun j hj hne=>?_⟩,by simp [intOf];omega⟩
      by_cases e:j=m
      ·rw [e,<-HY.out];exact hyx
      exact HF2.out j (by omega) hne
     obtain rfl:m=n:=by omega
     have aQt:¬ (m:Int)<(m:Int):=by omega
     have aRb:Hid (M.refers x z=false):=by
      show _=_;rw [Hp.zW]
      by_cases e:z=x
      ·simp [e]
      have:¬ x∈(M.refs z).1:=fun hx=>by
       obtain ⟨j,hj,he⟩:=jQ.1 hx;exact HF2.out j (by rw [HN.out];exact hj) e he
      simp [this]
     go_wp2_with fail;refine ⟨⟨k+1,by omega,by have:=HZ.out;go_num,HO5.out,fun j hj=>?_⟩,by have:=HZ.out;simp [intOf];omega⟩
     by_cases e:j=k
     ·rw [e,<-HZ.out];exact aRb.out
     exact HF.out j (by omega)
   obtain rfl:k=192:=by omega
   have aQz:M.held x=false:=Hp.aGr HF.out;rw [aQz] at hR;have hdr:=aJg wr HG.out HK.out x HOB.out;clear HF;go_wp2_with fail;refine hdr.mono ?_;rintro e w9 ⟨rfl,hd⟩;have HD:Hid (lF w L hb (.int .i64 0) (M.drop x o) (.returned (.int .i64 0)) w9):=by
    obtain ⟨_,L',X',q1,q2,q3⟩:=hd (.int .i64 0);exact ⟨rfl,L',X',q1,fun k hk=>by rcases q2 k hk with h|h;exact .inl h;exact .inr (Nat.le_trans HO.out.size h),HO.out.vW.trans q3 (fun x hx=>.inl hx)⟩
   clear hd hdr;go_wp2_with fail;exact hR.out _ _ HD.out
end
section
variable {L:Nat->Option Gb} {hb:Nat} {M:Hp} {X:GX}
theorem aPB (w:World) (x s y:Int):Calls prog 144 #[.pointer none,.int .i64 x,.int .i64 s,.int .i64 y] w (aK w (.int .i64 1)):=by
 refine aF fun R hR=>?_;have h1:=aIT w x s;go_in;go_wp2_with fail;refine h1.mono ?_;rintro e _ ⟨rfl,rfl⟩;go_wp2_with fail;exact hR.out _ _ ⟨rfl,rfl⟩
theorem aLj (w:World) (h:bF w L hb M X) (hk:M.Ok) {i:Nat} (hi:i<193) {o:Th} (ho:M.ob (i:Int)=some o) {s:Nat} (hs:s<o.slots.length) {y:Int} (hf:M.fits (gB o.refs s) y=true) {g n cap:Nat} (hv:X.sv i=.slice (some ⟨g,0,none⟩) n cap) :
  Calls prog 214 #[.pointer (some ⟨hb,0,none⟩),.int .i64 i] (w.setCell ⟨g,s,none⟩ (.int .i64 y)) (fun e w'=>e=.returned (.tuple #[])/\
   ∀ r,lF w L hb r ⟨(M.P.setCell (o.addr s) y).2,dX M.ob i (some (o.put s y))⟩ (.returned r) w'):=by
 have hk2:=hk.put ho hs hf;have ho2:dX M.ob (i:Int) (some (o.put s y)) (i:Int)=some (o.put s y):=aZ _ _ _;have hg:=bF.setSlot (P:=M.P) (ob:=M.ob) h ho hv s y;have hLg:L g=some (.sl i):=(h.th i o ho).Ls g (by rw [hv];rfl);refine (aAX _ hg hk.p hi ho2 (hk2.aKU ho2)).mono ?_;rintro e w' ⟨rfl,hg2,ho9⟩;rw [hk.aNc ho hs hf] at hg2;exact ⟨rfl,fun r=>⟨rfl,L,X,hg2,fun k hk=>.inl hk,((aI.refl _ w).set (p:=⟨g,s,none⟩) (.inl (by rw [hLg];simp)) _).trans ho9 (fun x hx=>.inl (fun e=>by rw [e] at hx;rcases hx with h|h|h|h<;>cases h))⟩⟩
theorem aEW (w:World) (h:bF w L hb M X) (hk:M.Ok) (x s y:Int):Calls prog 144 #[.pointer (some ⟨hb,0,none⟩),.int .i64 x,.int .i64 s,.int .i64 y] w (lF w L hb (.int .i64 (M.set x s y).1) (M.set x s y).2):=by
 refine aF fun R hR=>?_;have HD:Hid (∀ r,lF w L hb r M (.returned r) w):=fun r=>lF.none0 h (Only.refl _ _)
 cases ho:M.ob x with
 | none=>
  have hr:M.set x s y=(3,M):=by unfold Hp.set;rw [ho]
  rw [hr] at hR;have h1:=tH w h hk x s ho;clear h hk ho hr;go_in;go_wp2_with fail;refine h1.mono ?_;rintro e _ ⟨rfl,rfl⟩;go_wp2_with fail;exact hR.out _ _ (HD.out _)
 | some o=>
  by_cases hbad:s<0\/(o.slots.length:Int)<=s
  ·have hr:M.set x s y=(1,M):=by unfold Hp.set;rw [ho];exact if_pos hbad
   rw [hr] at hR;have h1:=xY w h hk x s ho hbad;clear h hk ho hr hbad;go_in;go_wp2_with fail;refine h1.mono ?_;rintro e _ ⟨rfl,rfl⟩;go_wp2_with fail;exact hR.out _ _ (HD.out _)
  have h1:=aAV w h hk x s ho hbad;obtain ⟨m,rfl⟩:∃ m:Nat,s=m:=⟨s.toNat,by omega⟩;have hm:m<o.slots.length:=by omega
  have hr:M.set x m y=if M.fits (gB o.refs m) y then (0,⟨(M.P.setCell (o.addr m) y).2,dX M.ob x (some (o.put m y))⟩) else (1,M):=by
   unfold Hp.set;rw [ho];show (if _ then _ else _)=_;rw [if_neg hbad,Int.toNat_natCast]
  rw [hr] at hR;obtain ⟨i,rfl,hi,x0,x1⟩:=hk.idx ho;have c0:=h.cells.1;obtain ⟨_,_,c2,c3,_⟩:=h.iJ hi ho;have th:=h.th (i:Int) o ho;have hrl:=(hk.th (i:Int) o ho).rl;obtain ⟨rg,rc,re,hrc⟩:=th.rb.cellsOf (by omega);obtain ⟨sg,sc,se,hsc⟩:∃ g cap,X.sv i=.slice (some ⟨g,0,none⟩) o.slots.length cap/\∀ j,j<o.slots.length->w.cell? ⟨g,j,none⟩=some (.int .i64 (gI o.slots j)):=by
   rcases th.sl.form with ⟨_,e⟩|⟨g,cap,e,_,_,_,hc⟩
   ·rw [e] at hm;simp at hm
   exact ⟨g,cap,e,hc⟩
  have aTr:w.frozen? ⟨sg,m,none⟩=false:=by
   have:=th.sl;rw [se] at this;obtain ⟨_,_,cs,hrow,_⟩:=this.row;exact hrow.free m
  rw [re] at c2;rw [se] at c3;have cr:=hrc m (by omega);have cs:=hsc m hm;have hn:=fun (wx:World)=>Lib.run_eql_slice_nil (P:=prog) wx 50 4 (some ⟨rg,0,none⟩) o.refs.length rc 0 0 Tryz.underlying50;have hin:=aAY w h hk y;have aBu:Hid (M.fits (gB o.refs m) y=true->Calls prog 214 #[.pointer (some ⟨hb,0,none⟩),.int .i64 i] (w.setCell ⟨sg,m,none⟩ (.int .i64 y)) (fun e w'=>e=.returned (.tuple #[])/\
    ∀ r,lF w L hb r ⟨(M.P.setCell (o.addr m) y).2,dX M.ob i (some (o.put m y))⟩ (.returned r) w')):=fun hf=>aLj w h hk hi ho hm hf se
  have hm0:(0:Int)<=(m:Int):=by omega
  have hmn:(m:Int)<(o.slots.length:Int):=by omega
  have hmr:(m:Int)<(o.refs.length:Int):=by omega
  obtain ⟨ri,hri⟩:∃ z,z=gB o.refs m:=⟨_,rfl⟩;rw [<-hri] at cr aBu hR;obtain ⟨og,hog⟩:∃ z,z=X.og:=⟨_,rfl⟩;rw [<-hog] at c0 c2 c3;obtain ⟨rn,hrn⟩:∃ z,z=o.refs.length:=⟨_,rfl⟩;obtain ⟨sn,hsn⟩:∃ z,z=o.slots.length:=⟨_,rfl⟩;rw [<-hrn] at c2 hmr hn;rw [<-hsn] at c3 hmn;clear h hk ho hr hbad re se hrc hsc th hri hog hrn hsn hi hrl hm
  cases ri with
  | false=>
   have hfit:M.fits false y=iK y:=rfl;rw [hfit] at hR aBu
   by_cases w1:y < -2147483648
   ·have HW:Hid (iK y=false):=by show _=_;unfold iK;simp;omega
    clear hfit hin aBu;go_in;go_wp2_with fail;refine h1.mono ?_;rintro e _ ⟨rfl,rfl⟩;go_wp2_with fail;refine hR.out _ _ ?_;rw [HW.out];exact HD.out _
   by_cases w2:2147483647<y
   ·have HW:Hid (iK y=false):=by show _=_;unfold iK;simp;omega
    clear hfit hin aBu;go_in;go_wp2_with fail;refine h1.mono ?_;rintro e _ ⟨rfl,rfl⟩;go_wp2_with fail;refine hR.out _ _ ?_;rw [HW.out];exact HD.out _
   have HW:Hid (iK y=true):=by show _=_;unfold iK;simp;omega
   have HL:=aA (aBu.out HW.out);clear hfit hin aBu;go_in;go_wp2_with fail;refine h1.mono ?_;rintro e _ ⟨rfl,rfl⟩;go_wp2_with fail;refine HL.out.mono ?_;rintro e w9 ⟨rfl,hd⟩;have HDD:=aA hd;clear hd;go_wp2_with fail;refine hR.out _ _ ?_;rw [HW.out];exact HDD.out _
  | true=>
   have hfit:M.fits true y=(decide (y=0) || (M.ob y).isSome):=rfl;rw [hfit] at hR aBu
   by_cases y0:y=0
   ·subst y0;have HW:Hid ((decide ((0:Int)=0) || (M.ob 0).isSome)=true):=by show _=_;simp
    have HL:=aA (aBu.out HW.out);clear hfit hin aBu;go_in;go_wp2_with fail;refine h1.mono ?_;rintro e _ ⟨rfl,rfl⟩;go_wp2_with fail;refine HL.out.mono ?_;rintro e w9 ⟨rfl,hd⟩;have HDD:=aA hd;clear hd;go_wp2_with fail;refine hR.out _ _ ?_;rw [HW.out];exact HDD.out _
   cases hsome:(M.ob y).isSome with
   | true=>
    rw [hsome] at hin;have HW:Hid ((decide (y=0) || (M.ob y).isSome)=true):=by show _=_;rw [hsome];simp
    have HL:=aA (aBu.out HW.out);clear hfit aBu hsome;go_in;go_wp2_with fail;refine h1.mono ?_;rintro e _ ⟨rfl,rfl⟩;go_wp2_with fail;refine hin.mono ?_;rintro e _ ⟨rfl,rfl⟩;go_wp2_with fail;refine HL.out.mono ?_;rintro e w9 ⟨rfl,hd⟩;have HDD:=aA hd;clear hd;go_wp2_with fail;refine hR.out _ _ ?_;rw [HW.out];exact HDD.out _
   | false=>
    rw [hsome] at hin;have HW:Hid ((decide (y=0) || (M.ob y).isSome)=false):=by show _=_;rw [hsome];simp [y0]
    clear hfit aBu hsome;go_in;go_wp2_with fail;refine h1.mono ?_;rintro e _ ⟨rfl,rfl⟩;go_wp2_with fail;refine hin.mono ?_;rintro e _ ⟨rfl,rfl⟩;go_wp2_with fail;refine hR.out _ _ ?_;rw [HW.out];exact HD.out _
theorem aIZ (w w3:World) (h0:aI (fun k=>L k≠none) w w3) (h:bF w3 L hb ⟨M.P.move.2.2.2,M.ob⟩ X) (hk:M.Ok) (he:M.P.move.2.2.1=0) {i:Nat} (hi:i<193) {o:Th} (ho:M.ob (i:Int)=some o) {m:Nat} (hm:m<o.blocks.length) (hf:gI o.blocks m=M.P.move.1) (hlast:∀ j,j<m->gI o.blocks j≠M.P.move.1) {g n cap:Nat} (hv:X.bv i=.slice (some ⟨g,0,none⟩) n cap) :
  Calls prog 214 #[.pointer (some ⟨hb,0,none⟩),.int .i64 i] (w3.setCell ⟨g,m,none⟩ (.int .i64 M.P.move.2.1)) (fun e w'=>e=.returned (.tuple #[])/\
   lF w L hb (.tuple #[.int .i64 M.move.1,.int .i64 M.move.2.1]) M.move.2.2 (.returned (.tuple #[.int .i64 i,.int .i64 0])) w'):=by
 have aOD:o.place M.P.move.1=m:=kP hm (by simp [hf]) (fun j hj=>by have:=hlast j hj;simpa using this);have hpl:o.place M.P.move.1<o.blocks.length:=by omega
 have hmv:=sF hk he ho hpl;rw [aOD] at hmv;have hk2:=hk.fE he ho hm hf;have ho2:(Hp.fE M.P.move.2.2.2 M.ob i o m M.P.move.2.1).ob (i:Int)=some (o.moved m M.P.move.2.1):=aZ _ _ _;have hg:=bF.setBlock (P:=M.P.move.2.2.2) (ob:=M.ob) h ho hv m M.P.move.2.1;have hLg:L g=some (.bl i):=(h.th i o ho).Lb g (by rw [hv];rfl);refine (aAX _ hg hk.p.move.1 hi (aZ _ _ _) (hk2.aKU ho2)).mono ?_;rintro e w' ⟨rfl,hg2,ho9⟩;rw [hk.aIB he ho hm hf] at hg2;rw [hmv];exact ⟨rfl,rfl,L,X,hg2,fun k hk=>.inl hk,(h0.set (p:=⟨g,m,none⟩) (.inl (by show L g≠none;rw [hLg];simp)) _).trans ho9 (fun x hx=>.inl (fun e=>by rw [e] at hx;rcases hx with h|h|h|h<;>cases h))⟩
theorem aIY (w:World) (h:bF w L hb M X) (hk:M.Ok) :
  Calls prog 228 #[.pointer (some ⟨hb,0,none⟩)] w (lF w L hb (.tuple #[.int .i64 M.move.1,.int .i64 M.move.2.1]) M.move.2.2):=by
 refine aF fun R hR=>?_;have h1:=fA w h;have c1:=h.cells.2.1;have hmv:=wJ w X.q X.k X.c X.l M.P h.pool hk.p;have aBu:Hid (∀ w3,aI (fun k=>L k≠none) w w3->bF w3 L hb ⟨M.P.move.2.2.2,M.ob⟩ X->M.P.move.2.2.1=0->∀ (i:Nat),i<193->∀ (o:Th),M.ob (i:Int)=some o->∀ m,m<o.blocks.length->gI o.blocks m=M.P.move.1->(∀ j,j<m->gI o.blocks j≠M.P.move.1)->∀ (g n cap:Nat),X.bv i=.slice (some ⟨g,0,none⟩) n cap->
  Calls prog 214 #[.pointer (some ⟨hb,0,none⟩),.int .i64 i] (w3.setCell ⟨g,m,none⟩ (.int .i64 M.P.move.2.1)) (fun e w'=>e=.returned (.tuple #[])/\
   lF w L hb (.tuple #[.int .i64 M.move.1,.int .i64 M.move.2.1]) M.move.2.2 (.returned (.tuple #[.int .i64 i,.int .i64 0])) w')):=
  fun w3 a1 a2 a3 i a4 o a5 m a6 a7 a8 g n cap a9=>aIZ w w3 a1 a2 hk a3 a4 a5 a6 a7 a8 a9
 obtain ⟨fr,hfr⟩:∃ z,z=M.P.move.1:=⟨_,rfl⟩;obtain ⟨tow,hto⟩:∃ z,z=M.P.move.2.1:=⟨_,rfl⟩;obtain ⟨er,her⟩:∃ z,z=M.P.move.2.2.1:=⟨_,rfl⟩;obtain ⟨Q,hQ⟩:∃ z,z=M.P.move.2.2.2:=⟨_,rfl⟩;rw [<-hfr,<-hto,<-her,<-hQ] at hmv aBu;have H:=aA h;have HK:=aA hk;have HFR:=aA hfr;have HER:=aA her;have HQ:=aA hQ;clear h hk hfr hto her hQ;go_in;go_wp2_with fail;refine h1.mono ?_;rintro e _ ⟨rfl,rfl⟩;clear h1;go_wp2_with fail;refine hmv.mono ?_;rintro e w3 ⟨rfl,hp3,ho3⟩;have HG3:Hid (bF w3 L hb ⟨Q,M.ob⟩ X):=bF.fO (P:=M.P) (ob:=M.ob) H.out ho3 hp3;have HO3:Hid (aI (fun k=>L k≠none) w w3):=(bF.aBX (P:=M.P) (ob:=M.ob) H.out ho3).mono (fun x hx=>.inl (fun e=>by rw [e] at hx;rcases hx with h|h|h|h<;>cases h))
 clear hmv hp3 ho3 c1
 by_cases he:er=0
 ·subst he;have hgm:bF w3 L hb ⟨Q,M.ob⟩ X:=HG3.out;have c0:=hgm.cells.1;obtain ⟨og,hog⟩:∃ z,z=X.og:=⟨_,rfl⟩;rw [<-hog] at c0;have HOG:=aA hog;clear hgm hog;go_wp2_with fail;go_loopw [7] (fun iv wr=>∃ k:Nat,k<=192/\iv=.int .i64 ((k:Int)+1)/\w3=wr/\Hid (∀ j:Nat,j<k->∀ o,M.ob ((j:Int)+1)=some o->¬ o.place fr<o.blocks.length)) (fun iv _=>193 - (intOf iv).toNat)
  case atStart=>exact ⟨0,by omega,rfl,rfl,fun j hj=>by omega⟩
  case round=>
   obtain ⟨k,hk,rfl,rfl,HF⟩:=hrel
   by_cases hlt:k<192
   ·have HKZ:Hid (((k+1:Nat):Int)=(k:Int)+1):=by show _=_;omega
    obtain ⟨i,hi⟩:∃ z:Nat,z=k+1:=⟨_,rfl⟩;have HI:=aA hi;have hz1:(i:Int)<193:=by omega
    have hz0:(0:Int)<=i:=by omega
    have hiN:i<193:=by omega
    have hii:((k:Int)+1)=(i:Int):=by omega
    rw [hii];have HII:=aA hii;clear hi hii
    cases hob:M.ob (i:Int) with
    | none=>
     have c4:=HG3.out.obj hiN (j:=4) (by omega);rw [show (⟨Q,M.ob⟩:Hp).ob (i:Int)=none from hob,<-HOG.out] at c4;replace c4:w3.cell? ⟨og,i*5+4,none⟩=some (.slice none 0 0):=c4;have HNO:Hid (∀ o,M.ob ((k:Int)+1)=some o->¬ o.place fr<o.blocks.length):=fun o ho=>by rw [HII.out,hob] at ho;cases ho
     clear hob;go_wp2_with fail;go_loopw [9] (fun iv wr=>iv=.int .i64 0/\w3=wr) (fun iv _=>0)
     case atStart=>exact ⟨rfl,rfl⟩
     case round=>
      obtain ⟨rfl,rfl⟩:=hrel;go_wp2_with fail;refine ⟨⟨k+1,by omega,by have:=HII.out;go_num,by trivial,fun j hj=>?_⟩,by have:=HII.out;simp [intOf];omega⟩
      by_cases e:j=k
      ·rw [e];exact HNO.out
      exact HF.out j (by omega)
    | some o=>
     obtain ⟨_,_,_,_,c4⟩:=bF.iJ (M:=⟨Q,M.ob⟩) HG3.out hiN hob;have hbl:=HG3.out.th (i:Int) o hob;obtain ⟨bg,bc,be,hbc⟩:=hbl.bl.cellsOf (HK.out.aBo hob).1;rw [be,<-HOG.out] at c4;have hfz:∀ j,w3.frozen? ⟨bg,j,none⟩=false:=by
      have:=hbl.bl;rw [be] at this;obtain ⟨_,_,cs,hrow,_⟩:=this.row;exact fun j=>hrow.free j
     obtain ⟨bn,hbn⟩:∃ z,z=o.blocks.length:=⟨_,rfl⟩;have HBN:=aA hbn;have hb7:bn<=7:=by have:=(HK.out.aBo hob).2.1;omega
     have HBE:=aA be;have HBC:=aA hbc;have HFZ:=aA hfz;have HOB:=aA hob;rw [<-hbn] at c4;clear hbl be hbc hfz hbn hob;go_wp2_with fail;go_loopw [9] (fun iv wr=>∃ m:Nat,m<=bn/\iv=.int .i64 m/\w3=wr/\Hid (∀ j:Nat,j<m->gI o.blocks j≠fr)) (fun iv _=>bn - (intOf iv).toNat)
     case atStart=>exact ⟨0,by omega,rfl,rfl,fun j hj=>by omega⟩
     case round=>
      obtain ⟨m,hm,rfl,rfl,HF2⟩:=hrel
      by_cases hmn:m<bn
      ·have aQt:(m:Int)<bn:=by omega
       have hm0:(0:Int)<=m:=by omega
       have hcm:=HBC.out m (by have:=HBN.out;omega);have hfm:=HFZ.out m;obtain ⟨y,hy⟩:∃ y,y=gI o.blocks m:=⟨_,rfl⟩;rw [<-hy] at hcm;have HY:=aA hy
       by_cases hyx:y=fr
       ·subst hyx;have HL:=aA (aBu.out w3 HO3.out HG3.out (by trivial) i hiN o HOB.out m (by have:=HBN.out;omega) HY.out.symm HF2.out bg _ bc HBE.out);clear hy;go_wp2_with fail;refine HL.out.mono ?_;rintro e w9 ⟨rfl,hd⟩;have HDD:=aA hd;clear hd;go_wp2_with fail;exact hR.out _ _ HDD.out
       clear hy;go_wp2_with fail;refine ⟨⟨m+1,by omega,by go_num,by trivial,fun j hj=>?_⟩,by simp [intOf];omega⟩
       by_cases e:j=m
       ·rw [e,<-HY.out];exact hyx
       exact HF2.out j (by omega)
      obtain rfl:m=bn:=by omega
      have aQt:¬ (m:Int)<(m:Int):=by omega
      have HNO:Hid (∀ o,M.ob ((k:Int)+1)=some o->¬ o.place fr<o.blocks.length):=fun o' ho hp=>by
       rw [HII.out,HOB.out] at ho
       cases ho
       exact HF2.out _ (by rw [HBN.out];exact hp) (Th.nO hp)
      go_wp2_with fail;refine ⟨⟨k+1,by omega,by have:=HII.out;go_num,by trivial,fun j hj=>?_⟩,by have:=HII.out;simp [intOf];omega⟩
      by_cases e:j=k
      ·rw [e];exact HNO.out
      exact HF.out j (by omega)
   obtain rfl:k=192:=by omega
   have HM:Hid (M.move=(0,0,⟨M.P.move.2.2.2,M.ob⟩)):=xE HER.out.symm (fun h o ho=>by
    have:=HK.out.hr h o ho;have h2:=HF.out (h.toNat - 1) (by omega) o (by rw [show (((h.toNat - 1:Nat):Int)+1)=h by omega];exact ho);rw [<-HFR.out];exact h2)
   have HD:Hid (lF w L hb (.tuple #[.int .i64 0,.int .i64 0]) ⟨M.P.move.2.2.2,M.ob⟩ (.returned (.tuple #[.int .i64 0,.int .i64 0])) w3):=⟨rfl,L,X,by rw [<-HQ.out];exact HG3.out,fun k hk=>.inl hk,HO3.out⟩;clear HF;go_wp2_with fail;refine hR.out _ _ ?_;rw [HM.out];exact HD.out
 have hbm:=aEN (M:=M) (by rw [<-HER.out];exact he);have HM:Hid (M.move=(0,er,M)):=by show _=_;rw [hbm.1,HER.out]
 have HD:Hid (lF w L hb (.tuple #[.int .i64 0,.int .i64 er]) M (.returned (.tuple #[.int .i64 0,.int .i64 er])) w3):=⟨rfl,L,X,by have:=HG3.out;rw [HQ.out,hbm.2] at this;exact this,fun k hk=>.inl hk,HO3.out⟩;clear hbm;go_wp2_with fail;refine hR.out _ _ ?_;rw [HM.out];exact HD.out
end
end Go.Proofs.YthflghdaejbdkaaGreat
