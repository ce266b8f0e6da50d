/- Lemmas of this claim. -/
import Derived.Test.YthflghdaejbdkaaGreatXdObj
namespace Go.Proofs.YthflghdaejbdkaaGreat
open Go.RowKit Go.Maps
set_option maxHeartbeats 3200000
set_option maxRecDepth 100000
set_option linter.unusedVariables false
section
variable {w w':World} {L:Nat->Option Lb} {hb:Nat} {M:Hp} {X:HX}
theorem dH.aOv {P:Pl} {ob:Int->Option Th} (h:dH w L hb ⟨P,ob⟩ X) {x:Int} (hg:aI (·=X.mb) w w') (hm:dL w' X.mb 192 (fun k=>if k=x then none else (ob k).map fun _=>X.blk k)):dH w' L hb ⟨P,dX ob x none⟩ X:=by
 have hP:aI (fun k=>L k=some .map) w w':=hg.mono (fun y hy=>.inl (by rw [hy];exact h.Lp));have hne:∀ k ℓ,ℓ≠Lb.map->L k=some .map->L k≠some ℓ:=fun k ℓ h1 hk e=>by rw [hk] at e;cases e;exact h1 rfl
 refine ⟨fun k hk=>Nat.lt_of_lt_of_le (h.lt k hk) hP.size,?_,h.Lm,h.pool.bW hP (fun y=>hne _ .pool (by simp) y h.Lpp) (fun y=>hne _ .pages (by simp) y h.Lpb),h.Lpp,h.Lpb,?_,h.Lp,fun k o' hk=>?_⟩
 ·obtain ⟨T,hr⟩:=h.mem;exact ⟨T,hP.row hr (fun y=>hne _ .mem (by simp) y h.Lm)⟩
 ·refine hm.congr (fun k=>?_);show _=(dX ob x none k).map _;unfold dX
  by_cases e:k=x
  ·rw [if_pos e,if_pos e];rfl
  rw [if_neg e,if_neg e]
 have h1:ob k=some o':=by
  have hk':dX ob x none k=some o':=hk
  by_cases e:k=x
  ·rw [e,aZ] at hk';cases hk'
  rw [bD _ _ e] at hk';exact hk'
 exact (h.th k o' h1).only hP (fun y hy=>⟨hne y _ (by simp) hy,hne y _ (by simp) hy,hne y _ (by simp) hy⟩)
theorem aBQ (w:World) (h:dH w L hb M X) (x:Int) (hx:wfI x) (ho:M.ob x=none):Calls Tryz.prog 300 #[.pointer (some ⟨hb,0,none⟩),.int .i64 x] w (aK w (.int .i64 3)):=by
 refine aF fun R hR=>?_;have h1:=nC w h x hx ho;clear h ho;go_in;go_wp2_with fail;refine h1.mono ?_;rintro e _ ⟨rfl,rfl⟩;go_wp2_with fail;exact hR.out _ _ ⟨rfl,rfl⟩
theorem Hp.wK {M:Hp} {h:Int}:M.refers h h=false:=by unfold Hp.refers;simp
theorem Hp.aDB {M:Hp} {h k:Int} {o:Th} (ho:M.ob k=some o) (hne:k≠h):M.refers h k=decide (h∈o.uP):=by unfold Hp.refers;rw [ho];simp [hne]
theorem aBP (w:World) (h:dH w L hb M X) (hk:M.Ok) (x:Int) (hx:wfI x) {o:Th} (ho:M.ob x=some o):Calls Tryz.prog 300 #[.pointer (some ⟨hb,0,none⟩),.int .i64 x] w (uV w L hb (.int .i64 (M.release x).1) (M.release x).2):=by
 refine aF fun R hR=>?_;have hr0:M.release x=if M.held x then (13,M) else (0,M.drop x o):=by unfold Hp.release;rw [ho]
 have HR0:=aA hr0;have h1:=kZ w h x hx ho;have c1:=h.cells.2.1;obtain ⟨D0,hown,aCv⟩:=h.mp;have hdat:uX D0 (fun k=>(M.ob k).map fun _=>X.blk k):=aCv;have HD:=aA hdat
 have H:=aA h;have HK:=aA hk;have HOX:=aA ho;have OWN:=aA hown;obtain ⟨mb,hmb⟩:∃ m,m=X.mb:=⟨_,rfl⟩;rw [<-hmb] at c1 OWN;have HMB:=aA hmb;have HWX:Hid (wfI x):=hx;clear hr0 h hk ho hdat aCv hown hmb hx;go_in;go_wp2_with fail;refine h1.mono ?_;rintro e _ ⟨rfl,rfl⟩;clear h1;go_wp2_with (at_range;refine wpList_range_own _ rfl _ 173 rfl 3 172 jA Tryz.underlying173 dO mb 192 D0 rfl OWN.out ?_;intro w0 hrg0 hg0 hs0);go_frame;have Q0:Only [] w w0:=(Only.refl [] w).grown hg0 (fun k hk=>by cases hk);clear c1;go_loopw [7] (fun _ wr=>∃ left cnt,wr.ranges Tryz.prog 3 dO mb w.heap.size 192 D0 left cnt/\Hid (∀ k,wfI k->(M.ob k).isSome=true->left (.int .i64 k)=false->M.refers x k=false)/\Only [] w wr) (fun _ wr=>wr.rangeLeft mb w.heap.size)
 case atStart=>
  refine ⟨_,_,hrg0,fun k hk h3 h4=>?_,Q0⟩;rw [(HD.out k hk).1] at h4
  cases e:M.ob k with
  | none=>rw [e] at h3;cases h3
  | some t=>simp [e] at h4
 case round=>
  clear hrg0 hg0 hs0 Q0;obtain ⟨left,cnt,hrg,HF,hO⟩:=hrel;have HRG:=aA hrg;have HO:=aA hO;clear hrg hO;go_wp2_with (at_next;refine gV rfl _ rfl mb w.heap.size 192 D0 left cnt _ HD.out rfl HRG.out ?_ ?_)
  ·intro _ hl0;have aNN:Hid (M.held x=false):=by
    show _=_
    cases e:M.held x
    ·rfl
    obtain ⟨k,aSF,hkr⟩:=Hp.qU.1 e;have h2:(M.ob ((k:Int)+1)).isSome=true:=by
     unfold Hp.refers at hkr
     cases e2:M.ob ((k:Int)+1) with
     | none=>rw [e2] at hkr;simp at hkr
     | some t=>rfl
    have:=HF.out ((k:Int)+1) (dI (by omega)) h2 (hl0 _);rw [this] at hkr;cases hkr
   clear hl0;have hrep:=H.out.aN HO.out;obtain ⟨hb1,hb2,_⟩:=HK.out.aBo HOX.out;obtain ⟨g,cap,eb,hcb⟩:=(hrep.th x o HOX.out).bl.cellsOf hb1;have c4:=(hrep.th x o HOX.out).cells.2.2.2.2;rw [eb] at c4;have HLG:Hid (L g=some (.bl x)):=(hrep.th x o HOX.out).Ll g (by rw [eb];rfl);obtain ⟨nb,hnb⟩:∃ n,n=o.blocks.length:=⟨_,rfl⟩;rw [<-hnb] at c4 hcb hb2;have HCB:=aA hcb;have HNB:=aA hnb;have aPH:=aA hrep;clear eb hcb hrep hnb hb1;obtain ⟨w9,hw9⟩:∃ z,z=wr:=⟨_,rfl⟩;rw [<-hw9] at HO aPH HCB c4 ⊢;clear hw9 HRG HF;go_wp2_with fail;go_loopw [45] (fun iv wr=>∃ j:Nat,j<=nb/\iv=.int .i64 j/\dH wr L hb ⟨iE M.P o.blocks j,M.ob⟩ X/\Only [X.pb] w9 wr) (fun iv _=>nb - (intOf iv).toNat)
   case atStart=>exact ⟨0,by omega,rfl,aPH.out,Only.refl _ _⟩
   case round=>
    clear c4;obtain ⟨j,hj,rfl,hrep,ho⟩:=hrel;have lS:=aA hrep;have HO2:=aA ho;clear hrep ho;have hgp:g∉[X.pb]:=by simp;rintro rfl;have:=lS.out.Lpb;rw [HLG.out] at this;cases this
    by_cases hlt:j<nb
    ·have hcj:=HO2.out.cell (HCB.out j hlt) hgp;have h0:=lS.out.cells.1;have hj0:(0:Int)<=j:=by omega
     have hjn:(j:Int)<nb:=by omega
     have hfree:=aLv wr X.pp X.pb (iE M.P o.blocks j) lS.out.pool (gI o.blocks j);have hstep:Hid (iE M.P o.blocks (j+1)=((iE M.P o.blocks j).free (gI o.blocks j)).2):=rfl;generalize (iE M.P o.blocks j).free (gI o.blocks j)=fr at hfree hstep;obtain ⟨f1,f2⟩:=fr;generalize gI o.blocks j=a at hcj hfree;clear hgp;go_wp2_with fail;refine hfree.mono ?_;rintro e w5 ⟨rfl,hp5,ho5⟩;have aRa:Hid (dH w5 L hb ⟨iE M.P o.blocks (j+1),M.ob⟩ X):=by
      show dH _ _ _ _ _;rw [hstep.out];exact lS.out.fO ho5 hp5 (fun _=>rfl) (fun k o' h2=>⟨o',h2,Th.Shape.refl _⟩)
     have HO5:=aA (HO2.out.trans ho5 (fun y hy=>.inl hy));clear hp5 ho5 hfree hcj h0;go_wp2_with fail;exact ⟨⟨j+1,by omega,by go_num,aRa.out,HO5.out⟩,by simp [intOf];omega⟩
    obtain rfl:j=nb:=by omega
    have c1:=lS.out.cells.2.1;rw [<-HMB.out] at c1;obtain ⟨D1,hown1,aOK⟩:=lS.out.mp;have hd1:uX D1 (fun k=>(M.ob k).map fun _=>X.blk k):=aOK;have HD1:=aA hd1;rw [<-HMB.out] at hown1;have aSS:=aA hown1;clear aOK hd1 hown1 hgp;go_wp2_with (at_delete;refine wpList_delete_own _ rfl _ _ 173 3 rfl 172 jA Tryz.underlying173 dO mb 192 D1 rfl aSS.out _ _ rfl (aMj HWX.out) ?_;intro w6 hown6 aMm);have O6:aI (·=X.mb) wr w6:=(aI.refl _ wr).grown aMm.grown (fun k hk=>by cases hk;exact .inl HMB.out);have hm6:dL w6 X.mb 192 (fun k=>if k=x then none else (M.ob k).map fun _=>X.blk k):=⟨_,by rw [<-HMB.out];exact hown6,HD1.out.del x⟩;have aQZ:=aA (lS.out.aOv O6 hm6);have HO6:Hid (aI (fun k=>L k≠none) w w6):=by
     have q1:aI (fun k=>L k≠none) w w9:=HO.out.vW;have q2:aI (fun k=>L k≠none) w9 wr:=HO2.out.toP (fun y hy=>.inl (by simp at hy;rw [hy,H.out.Lpb];simp));have q3:aI (fun k=>L k≠none) wr w6:=O6.mono (fun y hy=>.inl (by rw [hy,H.out.Lp];simp));exact (q1.trans q2 (fun y hy=>.inl hy)).trans q3 (fun y hy=>.inl hy)
    clear O6 hm6 hown6 aMm c1;go_wp2_with fail;refine hR.out _ _ ?_;rw [HR0.out,aNN.out];refine ⟨rfl,L,X,?_,fun k hk=>.inl hk,HO6.out⟩;have e:M.drop x o=⟨iE M.P o.blocks j,dX M.ob x none⟩:=by unfold Hp.drop;rw [HNB.out]
    rw [show (if false=true then ((13:Int),M) else (0,M.drop x o)).2=M.drop x o from rfl,e];exact aQZ.out
  intro k c w1 cnt1 hwk hlk t ht hc hrg1 hlt hg1 hs1 hen;have QO1:Hid (Only [] w w1):=HO.out.grown hg1 (fun j hj=>by cases hj;exact .inr (Nat.le_refl _));have hrep:=H.out.aN QO1.out;have aGp:cnt1<wr.rangeLeft mb w.heap.size:=by rw [HRG.out.left_eq];exact hlt
  have HR1:=aA hrg1;have jZ:Hid (M.refers x k=false->∀ j,wfI j->(M.ob j).isSome=true->(left (.int .i64 j) && !(Lit.int .i64 j).sameKey (.int .i64 k))=false->M.refers x j=false):=fun e0 j hj e1 e2=>by
   by_cases e:j=k
   ·subst e;exact e0
   refine HF.out j hj e1 ?_;rw [aKA j k hwk] at e2;simp [e] at e2;exact e2
  by_cases hkx:k=x
  ·have aNH:Hid (M.refers x k=false):=by show _=_;rw [hkx];exact Hp.wK
   subst hkx;clear hrg1 hlk hlt hg1 hs1 hc hrep hwk ht;go_wp2_with fail;exact ⟨⟨_,cnt1,HR1.out,jZ.out aNH.out,QO1.out⟩,by rw [HR1.out.left_eq];exact aGp⟩
  have hkb:(k != x)=true:=by simpa using hkx
  have href:=aBS w1 hrep HK.out ht;rw [hc] at href;have HRF:Hid (M.refers x k=decide (x∈t.uP)):=Hp.aDB ht hkx;have HLEN:Hid (t.uP.length<=48):=by
   have h2:=t.mF t.slots.length;have h3:=(HK.out.th k t ht).le;show (t.fF t.slots.length).length<=48;omega
  have HKB:Hid (1<=k/\k<=192):=HK.out.hr k t ht;generalize t.uP=rl at*;clear hrg1 hlk hlt hg1 hs1 hc hrep hwk ht hkx;go_wp2_with fail;refine href.mono ?_;rintro e w2 ⟨v2,rfl,hi2,ho2⟩;have QO2:=aA (QO1.out.trans ho2 (by simp));have HR2:=aA (wM HR1.out (ho2.vW (S:=fun _=>False)) (fun x=>x) (fun x=>x));have hcon:=oL w2 v2 rl hi2.read (by have:=HLEN.out;omega) x;obtain ⟨va2,vc2,hv2⟩:=hi2.len;subst hv2;generalize rl.length=rn at *
  cases hin:decide (x∈rl)
  ·rw [hin] at hcon;have aNH:Hid (M.refers x k=false):=by show _=_;rw [HRF.out,hin]
   clear hi2 ho2 href hin;go_wp2_with fail;refine hcon.mono ?_;rintro e _ ⟨rfl,rfl⟩;clear hcon;go_wp2_with fail;exact ⟨⟨_,cnt1,HR2.out,jZ.out aNH.out,QO2.out⟩,by rw [HR2.out.left_eq];exact aGp⟩
  rw [hin] at hcon;have aNN:Hid (M.held x=true):=Hp.qU.2 ⟨k.toNat - 1,by have:=HKB.out;omega,by
   rw [show ((k.toNat - 1:Nat):Int)+1=k by have:=HKB.out;omega,HRF.out,hin]⟩
  clear hi2 ho2 href hin;go_wp2_with fail;refine hcon.mono ?_;rintro e _ ⟨rfl,rfl⟩;clear hcon;go_wp2_with fail;refine hR.out _ _ ?_;rw [HR0.out,aNN.out];exact uV.none0 H.out QO2.out
theorem aDA (w:World) (h:dH w L hb M X) (hk:M.Ok) (x:Int) (hx:wfI x):Calls Tryz.prog 300 #[.pointer (some ⟨hb,0,none⟩),.int .i64 x] w (uV w L hb (.int .i64 (M.release x).1) (M.release x).2):=by
 cases ho:M.ob x with
 | none=>
  have hr:M.release x=(3,M):=by unfold Hp.release;rw [ho]
  rw [hr];refine (aBQ w h x hx ho).mono ?_;rintro e _ ⟨rfl,rfl⟩;exact uV.none h (lG.refl _)
 | some o=>exact aBP w h hk x hx ho
end
theorem aEp {P:Pl} {l:List Int} {k m:Nat} (h:dK P l k=none) (hm:k<=m):dK P l m=none:=by
 induction m with
 | zero=>(obtain rfl:k=0:=(by omega));exact h
 | succ m ih=>
  by_cases e:k=m+1
  ·rw [<-e];exact h
  unfold dK;rw [ih (by omega)]
theorem iM {P Q:Pl} {l bs:List Int} {k:Nat} (h:dK P l k=some (bs,Q)):dK P l (k+1)=if (Q.alloc (gI l k)).2.1=0 then some (bs ++ [(Q.alloc (gI l k)).1],(Q.alloc (gI l k)).2.2) else none:=by
 unfold dK;rw [h]
theorem aNt (w:World) (n:Nat) (hn:n<=1000):Calls Tryz.prog 218 #[.int .i64 n] w (aK w (.int .i64 (lU n))):=by
 refine aF fun R hR=>?_
 by_cases h2:n<=2
 ·have e:lU n=0:=by unfold lU;rw [if_pos h2]
  rw [e] at hR;have h2i:(n:Int)<=2:=by omega
  clear e;go_in;go_wp2_with fail;exact hR.out _ _ ⟨rfl,rfl⟩
 have h2i:¬ (n:Int)<=2:=by omega
 by_cases h4:n<=4
 ·have e:lU n=1:=by unfold lU;rw [if_neg h2,if_pos h4]
  rw [e] at hR;have h4i:(n:Int)<=4:=by omega
  clear e;go_in;go_wp2_with fail;exact hR.out _ _ ⟨rfl,rfl⟩
 have e:lU n=2:=by unfold lU;rw [if_neg h2,if_neg h4]
 rw [e] at hR;have h4i:¬ (n:Int)<=4:=by omega
 clear e;go_in;go_wp2_with fail;exact hR.out _ _ ⟨rfl,rfl⟩
section
variable {w w':World} {L:Nat->Option Lb} {hb:Nat} {M:Hp} {X:HX}
theorem dH.aOY (h:dH w L hb M X) {hN:Int} {o:Th} {p' b' xb:Nat} {P':Pl} {rv bv:Value} (hg:aI (fun k=>L k=some .mem\/L k=some .map) w w')
  (hm:∃ T,Row w' hb T [.pointer (some ⟨p',0,none⟩),.map (some X.mb)]) (hp:dM w' p' b' P') (hmp:dL w' X.mb 192 (fun k=>if k=hN then some xb else (M.ob k).map fun _=>X.blk k))
  (hrow:∃ T,Row w' xb T (zA o rv bv)) (hrv:Bls w' w.heap.size rv o.kD) (hbv:aO w' w.heap.size bv o.blocks)
  (h1:w.heap.size<=p'/\p'<w'.heap.size) (h2:w.heap.size<=b'/\b'<w'.heap.size) (h3:w.heap.size<=xb/\xb<w'.heap.size)
  (d1:xb≠p') (d2:xb≠b') (d3:∀ g,rv.ownBlock=some g->g≠p'/\g≠b'/\g≠xb) (d4:∀ g,bv.ownBlock=some g->g≠p'/\g≠b'/\g≠xb/\rv.ownBlock≠some g) :
  ∃ L' X',dH w' L' hb ⟨P',dX M.ob hN (some o)⟩ X'/\∀ k,L' k≠none->L k≠none\/w.heap.size<=k:=by
 obtain ⟨L',hL'⟩:∃ L':Nat->Option Lb,L'=fun k=>if k=p' then some .pool else if k=b' then some .pages else if k=xb then some (.th hN) else if rv.ownBlock=some k then some (.rb hN) else if bv.ownBlock=some k then some (.bl hN) else L k:=⟨_,rfl⟩;have hlab:∀ k,L k≠none->L' k=L k:=fun k hk=>by
  have:=h.lt k hk;rw [hL'];simp only;rw [if_neg (by omega),if_neg (by omega),if_neg (by omega),if_neg (fun e=>by have:=(hrv.own k e).1;omega),if_neg (fun e=>by have:=(hbv.own k e).1;omega)]
 have hnew:∀ k,L' k≠none->L k≠none\/(w.heap.size<=k/\k<w'.heap.size):=fun k hk=>by
  rw [hL'] at hk;simp only at hk
  by_cases e1:k=p'
  ·rw [e1];exact .inr h1
  rw [if_neg e1] at hk
  by_cases e2:k=b'
  ·rw [e2];exact .inr h2
  rw [if_neg e2] at hk
  by_cases e3:k=xb
  ·rw [e3];exact .inr h3
  rw [if_neg e3] at hk
  by_cases e4:rv.ownBlock=some k
  ·exact .inr (hrv.own k e4)
  rw [if_neg e4] at hk
  by_cases e5:bv.ownBlock=some k
  ·exact .inr (hbv.own k e5)
  rw [if_neg e5] at hk;exact .inl hk
 have hne:∀ k ℓ,ℓ≠Lb.mem->ℓ≠.map->(L k=some .mem\/L k=some .map)->L k≠some ℓ:=fun k ℓ e1 e2 hk e=>by
  rcases hk with hk|hk
  ·rw [hk] at e;cases e;exact e1 rfl
  rw [hk] at e;cases e;exact e2 rfl
 have hpb:=hp.ne;refine ⟨L',⟨p',b',X.mb,fun k=>if k=hN then xb else X.blk k,fun k=>if k=hN then rv else X.rv k,fun k=>if k=hN then bv else X.bv k⟩,⟨fun k hk=>?_,hm,qN hlab h.Lm,hp,by rw [hL'];simp,by rw [hL'];simp [Ne.symm hpb],?_,qN hlab h.Lp,fun k u hk=>?_⟩,fun k hk=>(hnew k hk).imp id (fun e=>e.1)⟩
 ·rcases hnew k hk with e|e
  ·exact Nat.lt_of_lt_of_le (h.lt k e) hg.size
  exact e.2
 ·refine hmp.congr (fun k=>?_);show _=(dX M.ob hN (some o) k).map fun _=>if k=hN then xb else X.blk k
  by_cases e:k=hN
  ·rw [e,aZ,if_pos rfl,if_pos rfl];rfl
  rw [bD _ _ e,if_neg e,if_neg e]
 show aDk w' L' k (if k=hN then xb else X.blk k) (if k=hN then rv else X.rv k) (if k=hN then bv else X.bv k) u;rcases aV hk with ⟨rfl,rfl⟩|⟨e,hk'⟩
 ·rw [if_pos rfl,if_pos rfl,if_pos rfl];refine ⟨hrow,?_,hrv.base (Nat.zero_le _),fun g hgv=>?_,hbv.base (Nat.zero_le _),fun g hgv=>?_⟩
  ·rw [hL'];simp [d1,d2]
  ·obtain ⟨a1,a2,a3⟩:=d3 g hgv;rw [hL'];simp [a1,a2,a3,hgv]
  obtain ⟨a1,a2,a3,a4⟩:=d4 g hgv;rw [hL'];simp [a1,a2,a3,a4,hgv]
 rw [if_neg e,if_neg e,if_neg e];exact ((h.th k u hk').only hg (fun x hx=>⟨hne x _ (by simp) (by simp) hx,hne x _ (by simp) (by simp) hx,hne x _ (by simp) (by simp) hx⟩)).lab hlab
end
set_option maxHeartbeats 6400000
theorem aO.one (w:World) (c:Int):aO (w.alloc (.cells #[.int .i64 c] 3)) w.heap.size (.slice (some ⟨w.heap.size,0,none⟩) 1 1) [c]:=
 ⟨by simp,.inr ⟨w.heap.size,1,#[.int .i64 c],rfl,Nat.le_refl _,Row.new w 3 [.int .i64 c],Nat.le_refl _,by decide,rfl,rfl⟩⟩
theorem wW {n:Nat} (h:¬ 7<n):aT n=[lU (1+n)]:=by unfold aT;rw [if_neg h]
theorem zY {n j:Nat} (h:7<n) (hj:¬ j*8<n) (hj2:(j - 1)*8<n) (hj0:0<j):lU (1+n) :: List.replicate j 2=aT n:=by
 unfold aT;rw [if_pos h];have:j=(n+7) / 8:=by omega
 rw [this]
theorem aFg (c:Int) (j:Nat):c :: (List.replicate j (2:Int) ++ [2])=c :: List.replicate (j+1) 2:=by
 rw [<-List.replicate_succ']
section
variable {w0:World} {L:Nat->Option Lb} {hb:Nat} {M:Hp} {X:HX}
theorem aAc {k:Nat} (hk:k<192) (h:∀ j,j<k->M.ob ((j:Int)+1)≠none) (h2:M.ob ((k:Int)+1)=none):M.least=k:=
 kP (f:=fun k=>(M.ob ((k:Int)+1)).isNone) hk (by simp [h2]) (fun j hj=>by
  cases e:M.ob ((j:Int)+1) with
  | none=>exact absurd e (h j hj)
  | some o=>simp)
theorem aAd (h:∀ j:Nat,j<192->M.ob ((j:Int)+1)≠none):¬ M.least<192:=by
 have:=fB (f:=fun k=>(M.ob ((k:Int)+1)).isNone) (m:=192) (fun j hj=>by
  cases e:M.ob ((j:Int)+1) with
  | none=>exact absurd e (h j hj)
  | some o=>simp)
 unfold Hp.least;omega
theorem aFo {o:Th} (h:¬ M.least<192):M.add o=(0,14,M):=by unfold Hp.add;rw [if_neg h]
theorem aBp {o:Th} {k:Nat} (hk:k<=(aT o.slots.length).length) (h:dK M.P (aT o.slots.length) k=none):M.add o=(0,14,M):=by
 unfold Hp.add;split
 ·rw [aEp h hk]
 rfl
theorem aFm {o:Th} {bs:List Int} {Q:Pl} (hl:M.least<192) (h:dK M.P (aT o.slots.length) (aT o.slots.length).length=some (bs,Q)) :
  M.add o=((M.least:Int)+1,0,⟨fK Q ((M.least:Int)+1) bs,dX M.ob ((M.least:Int)+1) (some { o with blocks:=bs })⟩):=by
 unfold Hp.add;rw [if_pos hl,h]
theorem aBq {w9:World} (h:dH w0 L hb M X) (hk:M.Ok) {o:Th} {kd cl:Int} {n:Nat} {rv bv:Value} {p' b' xb T:Nat} {Q:Pl} {bs:List Int} (hl:M.least<192)
  (hs:dK M.P (aT o.slots.length) (aT o.slots.length).length=some (bs,Q)) (hp:dM w9 p' b' (fK Q ((M.least:Int)+1) bs)) (ho:Only [] w0 w9)
  (hrow:Row w9 xb T [.int .i64 kd,.int .i64 cl,.int .i64 n,rv,bv]) (e1:kd=o.kind) (e2:cl=o.cls) (e3:n=o.slots.length)
  (hrv:Bls w9 w0.heap.size rv o.kD) {base:Nat} (hbv:aO w9 base bv bs) (hx:w0.heap.size<=xb) (hrx:∀ g,rv.ownBlock=some g->g<xb) (hp1:xb<p') (hb1:xb<b') (hp2:p'<base) (hb2:b'<base) :
  ∃ w11,(Instr.mapUpdate 173 (.map (some X.mb)) (.int .i64 ((M.least:Int)+1)) (.pointer (some ⟨xb,0,none⟩))).run Tryz.prog (w9.setCell ⟨hb,0,none⟩ (.pointer (some ⟨p',0,none⟩)))=.ok () w11/\
   uV w0 L hb (.tuple #[.int .i64 (M.add o).1,.int .i64 (M.add o).2.1]) (M.add o).2.2 (.returned (.tuple #[.int .i64 ((M.least:Int)+1),.int .i64 0])) w11:=by
 have hne:hb≠X.mb:=by rintro e;have:=h.Lm;rw [e,h.Lp] at this;cases this
 have hO:aI (·=hb) w0 (w9.setCell ⟨hb,0,none⟩ (.pointer (some ⟨p',0,none⟩))):=(ho.vW (S:=(·=hb))).set (.inl rfl) _;have aPz:=h.mp.only hO (fun e=>hne e.symm);have hwf:wfI ((M.least:Int)+1):=dI (by omega);obtain ⟨w11,hrun,aPy,hg⟩:=aPz.store (by omega) hwf xb;have O9:aI (fun k=>k=hb\/k=X.mb) w9 w11:=((aI.refl (fun k=>k=hb\/k=X.mb) w9).set (p:=⟨hb,0,none⟩) (.inl (.inl rfl)) (.pointer (some ⟨p',0,none⟩))).grown hg (fun k hk=>by cases hk;exact .inl (.inr rfl));have hmb:=h.mp.lt;have hhb:hb<w0.heap.size:=h.lt hb (by rw [h.Lm];simp);have hsz:=ho.size;have aSl:=O9.size;obtain ⟨_,_,_,_,f1,f2⟩:=hp.facts;have hxl:=hrow.lt;have hnot:∀ k,w0.heap.size<=k->¬ (k=hb\/k=X.mb):=fun k hk e=>by rcases e with e|e<;>omega
 have aQv:=(h.aN ho).mem;obtain ⟨Tm,hrm⟩:=aQv;have aQj:=hrm.set 0 (.pointer (some ⟨p',0,none⟩));have aQi:Row w11 hb Tm [.pointer (some ⟨p',0,none⟩),.map (some X.mb)]:=aQj.grown hg (by intro e;cases e;exact hne rfl);have O0:aI (fun k=>L k=some .mem\/L k=some .map) w0 w11:=(ho.vW (S:=fun k=>L k=some .mem\/L k=some .map)).trans O9 (fun x hx=>by
  rcases hx with rfl|rfl
  ·exact .inl (.inl h.Lm)
  exact .inl (.inr h.Lp))
 have aOA:Row w11 xb T (zA { o with blocks:=bs } rv bv):=by
  have:=O9.row hrow (hnot xb hx);unfold zA;rw [<-e1,<-e2,<-e3];exact this
 have aQs:dL w11 X.mb 192 (fun k=>if k=(M.least:Int)+1 then some xb else (M.ob k).map fun _=>X.blk k):=aPy.bound (fun k hs=>by
  by_cases e:k=(M.least:Int)+1
  ·omega
  simp only [e,if_false] at hs
  cases eo:M.ob k with
  | none=>rw [eo] at hs;cases hs
  | some u=>exact hk.hr k u eo)
 obtain ⟨L',X',q1,q2⟩:=h.aOY (w':=w11) (hN:=(M.least:Int)+1) (o:={ o with blocks:=bs }) (p':=p') (b':=b') (xb:=xb) (P':=fK Q ((M.least:Int)+1) bs) (rv:=rv) (bv:=bv) O0 ⟨Tm,aQi⟩
  (hp.bW O9 (hnot p' (by omega)) (hnot b' (by omega))) aQs ⟨T,aOA⟩ (hrv.bW O9 (fun g hg=>hnot g (hrv.own g hg).1)) ((hbv.base (b:=w0.heap.size) (by omega)).bW O9 (fun g hg=>hnot g (by have:=(hbv.own g hg).1;omega)))
  ⟨by omega,by omega⟩ ⟨by omega,by omega⟩ ⟨hx,by omega⟩ (by omega) (by omega) (fun g hg=>by have:=hrx g hg;omega)
  (fun g hg=>⟨by have:=(hbv.own g hg).1;omega,by have:=(hbv.own g hg).1;omega,by have:=(hbv.own g hg).1;omega,fun e=>by have:=(hbv.own g hg).1;have:=hrx g e;omega⟩)
 refine ⟨w11,hrun,?_⟩;rw [aFm hl hs];refine ⟨rfl,L',X',q1,q2,O0.mono (fun x hx=>.inl (by rcases hx with e|e<;>rw [e]<;>simp))⟩
theorem aJM (w:World) (h:dH w0 L hb M X) (hk:M.Ok) (hw:Only [] w0 w) (o:Th) (ho:o.ok1) (rv:Value) (hrv:Bls w w0.heap.size rv o.kD) :
  Calls Tryz.prog 164 #[.pointer (some ⟨hb,0,none⟩),.agg #[.int .i64 o.kind,.int .i64 o.cls,.int .i64 o.slots.length,rv,.slice none 0 0]] w
   (uV w0 L hb (.tuple #[.int .i64 (M.add o).1,.int .i64 (M.add o).2.1]) (M.add o).2.2):=by
 refine aF fun R hR=>?_;obtain ⟨ra,rc,hra⟩:=hrv.len;have aIJ:=ho.le;obtain ⟨rn,hrn⟩:∃ b,b=o.kD.length:=⟨_,rfl⟩;obtain ⟨n,hn⟩:∃ b,b=o.slots.length:=⟨_,rfl⟩;obtain ⟨kd,hkd⟩:∃ b,b=o.kind:=⟨_,rfl⟩;obtain ⟨cl,hcl⟩:∃ b,b=o.cls:=⟨_,rfl⟩;have HRV:=aA hrv;rw [hra,<-hrn] at HRV;rw [hra,<-hrn,<-hn,<-hkd,<-hcl];have H:=aA h;have OK:=aA hk;have HW:=aA hw;have HN:=aA hn;have HKD:=aA hkd;have HCL:=aA hcl;have HRN:=aA hrn;rw [<-hn] at aIJ;have HO1:Hid (Only [] w0 (w.alloc (.cells #[.int .i64 kd,.int .i64 cl,.int .i64 n,.slice ra rn rc,.slice none 0 0] 184))):=hw.alloc _;have pJ:Hid (Row (w.alloc (.cells #[.int .i64 kd,.int .i64 cl,.int .i64 n,.slice ra rn rc,.slice none 0 0] 184)) w.heap.size 184 [.int .i64 kd,.int .i64 cl,.int .i64 n,.slice ra rn rc,.slice none 0 0]):=Row.new w _ [_,_,_,_,_];have aNJ:Hid (Bls (w.alloc (.cells #[.int .i64 kd,.int .i64 cl,.int .i64 n,.slice ra rn rc,.slice none 0 0] 184)) w0.heap.size (.slice ra rn rc) o.kD):=HRV.out.alloc _;have HRB:Hid (∀ g,(Value.slice ra rn rc).ownBlock=some g->g<w.heap.size):=fun g hg=>(HRV.out.own g hg).2;have HX:Hid (w0.heap.size<=w.heap.size):=hw.size;have hsz1:w.heap.size<(w.alloc (.cells #[.int .i64 kd,.int .i64 cl,.int .i64 n,.slice ra rn rc,.slice none 0 0] 184)).heap.size:=by simp
 clear h hk hw hrv ho hra;clear hn hkd hcl hrn;go_in;go_wp2_with fail;generalize (w.alloc (.cells #[.int .i64 kd,.int .i64 cl,.int .i64 n,.slice ra rn rc,.slice none 0 0] 184))=w1 at*;obtain ⟨xb,hxb⟩:∃ b,b=w.heap.size:=⟨_,rfl⟩;rw [<-hxb] at pJ HRB HX hsz1 ⊢;clear hxb HRV HW;have HH1:=aA (H.out.aN HO1.out);have c1:=HH1.out.cells.2.1;go_loopw [6] (fun iv wr=>∃ k:Nat,k<=192/\iv=.int .i64 ((k:Int)+1)/\w1=wr/\Hid (∀ j:Nat,j<k->M.ob ((j:Int)+1)≠none)) (fun iv _=>193 - (intOf iv).toNat)
 case atStart=>exact ⟨0,by omega,rfl,rfl,fun j hj=>by omega⟩
 case round=>
  obtain ⟨k,hk,rfl,rfl,HF⟩:=hrel
  cases hob:M.ob ((k:Int)+1) with
  | some o'=>
   have hl:=HH1.out.xK (dI (by omega)) hob;have hk1:k<192:=by have:=(OK.out.hr _ _ hob).2;omega
   have HOB:=aA hob;clear hob;go_wp2_with fail;refine ⟨⟨k+1,by omega,by go_num,by trivial,fun j hj=>?_⟩,by simp [intOf];omega⟩
   by_cases e:j=k
   ·rw [e,HOB.out];simp
   exact HF.out j (by omega)
  | none=>
   have hl:=HH1.out.xM (dI (by omega)) hob;have HOB:=aA hob;clear hob
   by_cases hfull:k=192
   ·have hgt:(192:Int)<(k:Int)+1:=by omega
    have aLX:Hid (M.add o=(0,14,M)):=aFo (aAd (fun j hj=>HF.out j (by omega)));clear hfull;go_wp2_with fail;refine hR.out _ _ ?_;rw [aLX.out];exact uV.none0 H.out HO1.out
   have hle:¬ (192:Int)<(k:Int)+1:=by omega
   have HLE:Hid (True->M.least=k):=fun _=>aAc (by omega) HF.out HOB.out;obtain ⟨hN,hhN⟩:∃ z:Int,z=(k:Int)+1:=⟨_,rfl⟩;rw [<-hhN] at hl hle ⊢;have HHN:Hid (True->hN=(M.least:Int)+1):=fun _=>by rw [HLE.out trivial];exact hhN
   have HLT:Hid (True->M.least<192):=fun _=>by rw [HLE.out trivial];omega
   have b2:w1.cell? ⟨xb,2,none⟩=_:=pJ.out.cell 2 rfl;have hfit:Calls Tryz.prog 218 #[.int .i64 (1+(n:Int))] w1 (aK w1 (.int .i64 (lU (1+n)))):=by
    have:=aNt w1 (1+n) (by omega);rwa [show ((1+n:Nat):Int)=1+(n:Int) by omega] at this
   clear hhN HF HOB;go_wp2_with fail;refine hfit.mono ?_;rintro e _ ⟨rfl,rfl⟩;clear hfit;have HSZ:Hid (aO (w1.alloc (.cells #[.int .i64 (lU (1+n))] 3)) w1.heap.size (.slice (some ⟨w1.heap.size,0,none⟩) 1 1) [lU (1+n)]):=aO.one w1 _;have HO2:Hid (Only [] w1 (w1.alloc (.cells #[.int .i64 (lU (1+n))] 3))):=(Only.refl [] w1).alloc _;have d2:(w1.alloc (.cells #[.int .i64 (lU (1+n))] 3)).cell? ⟨xb,2,none⟩=_:=HO2.out.cell b2 (by simp);clear b2 c1 hl;have d0:(w1.alloc (.cells #[.int .i64 (lU (1+n))] 3)).cell? ⟨hb,0,none⟩=_:=HO2.out.cell HH1.out.cells.1 (by simp);have hw2:w1.heap.size<(w1.alloc (.cells #[.int .i64 (lU (1+n))] 3)).heap.size:=by simp
   by_cases h7:7<n
   ·have h7i:(7:Int)<n:=by omega
    have H7:=aA h7;go_wp2_with fail;generalize (w1.alloc (.cells #[.int .i64 (lU (1+n))] 3))=w2 at*;obtain ⟨sg,hsg⟩:∃ z,z=w1.heap.size:=⟨_,rfl⟩;rw [<-hsg] at HSZ hw2 ⊢;have HSG:Hid (xb<sg):=by show xb<sg;omega
    have aRL:Hid (sg=w1.heap.size):=hsg;clear d0 d2 h7 h7i hsz1 hw2 hsg;go_loopw [7,8] (fun v iv wr=>∃ j:Nat,iv=.int .i64 (j*8:Nat)/\j<=6/\(j=0\/(j - 1)*8<n)/\aO wr sg v (lU (1+n) :: List.replicate j 2)/\Only [] w1 wr) (fun _ iv _=>49 - (intOf iv).toNat)
    case atStart=>exact ⟨0,rfl,by omega,.inl rfl,HSZ.out,HO2.out⟩
    case round=>
     clear HSZ HO2 w2;obtain ⟨j,rfl,hj6,hj,hsz,ho⟩:=hrel;obtain ⟨va,vc,hv⟩:=hsz.len;rw [show (lU (1+n) :: List.replicate j (2:Int)).length=j+1 by simp] at hv;subst hv;have b2:=ho.cell (pJ.out.cell 2 rfl) (by simp);have HSZ:=aA hsz;have HO2:=aA ho;obtain ⟨ji,hji⟩:∃ z:Int,z=((j*8:Nat):Int):=⟨_,rfl⟩;rw [<-hji];have HJI:=aA hji
     by_cases hlt:j*8<n
     ·have hlt1:ji<(n:Int):=by omega
      have hj0:0<=ji:=by omega
      obtain ⟨jn,hjn⟩:∃ z,z=j+1:=⟨_,rfl⟩;rw [<-hjn] at HSZ ⊢;have HJN:=aA hjn;clear hji hsz ho hjn;go_wp2_with (at_builtin;refine bI rfl _ _ rfl sg _ _ rfl (HSZ.out.alloc _) wr.heap.size 2 rfl ?c1 ?c2 ?c3 ?c4)
      case c1=>exact (Row.new wr _ [_]).cell 0 rfl
      case c2=>simp;omega
      case c3=>have:=HO2.out.size;have:=aRL.out;simp;omega
      case c4=>
       intro v' w5 hv1 ho1 hb1;have HV5:=aA hv1;have HO5:Hid (Only [] w1 w5):=(HO2.out.alloc _).trans ho1 (fun x hx=>.inr (by have:=(HSZ.out.own x (by simpa using hx)).1;have:=aRL.out;omega));clear hv1 ho1 hb1 HSZ HO2;go_wp2_with fail;refine ⟨⟨j+1,?_,?_,?_,?_,HO5.out⟩,?_⟩
       ·have:=HJI.out;go_num
       ·omega
       ·right;show j*8<n;omega
       ·have:=HV5.out;rw [aFg] at this;exact this
       have:=HJI.out;simp [intOf];omega
     have hlt1:¬ ji<(n:Int):=by omega
     have HNE:Hid (lU (1+n) :: List.replicate j (2:Int)=aT n):=zY H7.out hlt (by have:=H7.out;omega) (by have:=H7.out;omega);have aLW:=aA (show aO wr sg (.slice va (j+1) vc) (aT n) by rw [<-HNE.out];exact HSZ.out);have HOB:Hid (Only [] w0 wr):=HO1.out.trans HO2.out (by simp);have aBs:Hid (Row wr xb 184 [.int .i64 kd,.int .i64 cl,.int .i64 n,.slice ra rn rc,.slice none 0 0]):=HO2.out.row pJ.out (by simp);have aMt:Hid (Bls wr w0.heap.size (.slice ra rn rc) o.kD):=aNJ.out.only HO2.out (by simp);have d0:=(H.out.aN HOB.out).cells.1;have aDc:=aA (vS wr X.pp X.pb M.P (H.out.aN HOB.out).pool);generalize Value.slice va (j+1) vc=v7 at*;clear HSZ HNE aNJ pJ hsz ho hji hj hj6;go_wp2_with fail;generalize hw2:wr=w2 at*;clear hw2 d0 b2;obtain ⟨g,sc,hv7,aQf,hg2,hsc⟩:∃ g sc,v7=.slice (some ⟨g,0,none⟩) (aT n).length sc/\sg<=g/\g<w2.heap.size/\(aT n).length<=sc:=by
      rcases aLW.out.form with ⟨_,e⟩|⟨g,sc,e1,e2,e3,e4,_⟩
      ·have:=jP n;rw [e] at this;simp at this
      exact ⟨g,sc,e1,e2,e3,e4⟩
     subst hv7;have hs1:=jP n;have hs7:=vJ n aIJ;obtain ⟨sn,hsn⟩:∃ z,z=(aT n).length:=⟨_,rfl⟩;rw [<-hsn] at hs1 hs7 aLW hsc ⊢;have HSN:=aA hsn;clear hsn;refine aDc.out.mono ?_;rintro e w3 ⟨p',b',rfl,hp3,ho3,aQo,aQC⟩;have HO3:Hid (Only [] w0 w3):=HOB.out.trans ho3 (by simp);have aDb:Hid (Row w3 xb 184 [.int .i64 kd,.int .i64 cl,.int .i64 n,.slice ra rn rc,.slice none 0 0]):=ho3.row aBs.out (by simp);have aNI:Hid (Bls w3 w0.heap.size (.slice ra rn rc) o.kD):=aMt.out.only ho3 (by simp);have aQV:Hid (aO w3 sg (.slice (some ⟨g,0,none⟩) sn sc) (aT n)):=aLW.out.only ho3 (by simp);obtain ⟨_,_,_,_,hf1,hf2⟩:=hp3.facts;have HB:Hid (xb<p'/\xb<b'/\g<b'/\xb<g/\p'<w3.heap.size/\b'<w3.heap.size/\p'≠b'/\w0.heap.size<=xb):=⟨by have:=HSG.out;omega,by have:=HSG.out;omega,by omega,by have:=HSG.out;omega,hf1,hf2,hp3.ne,HX.out⟩;have HP3:=aA hp3;clear aDc HO2 HO1 HOB aBs aMt aLW ho3 aQo aQC hf1 hf2 hp3 aQf hg2;obtain ⟨b3,hb3⟩:∃ z,z=w3.heap.size:=⟨_,rfl⟩;have HB3:=aA hb3;clear hb3;go_wp2_with fail;go_loopw [51] (fun iv wr=>∃ (k:Nat) (bs:List Int) (Q:Pl) (bv:Value),k<=sn/\iv=.int .i64 k/\Hid (True->dK M.P (aT n) k=some (bs,Q))/\dM wr p' b' Q/\aO wr b3 bv bs/\Row wr xb 184 [.int .i64 kd,.int .i64 cl,.int .i64 n,.slice ra rn rc,bv]/\Only [xb,b'] w3 wr) (fun iv _=>sn - (intOf iv).toNat)
     case atStart=>exact ⟨0,[],M.P,.slice none 0 0,by omega,rfl,fun _=>rfl,HP3.out,aO.nil _ _,aDb.out,Only.refl _ _⟩
     case round=>
      clear HP3 aDb;obtain ⟨k,bs,Q,bv,hk,rfl,HAN,hp,hbv,hrow,ho⟩:=hrel;have hbl:bs.length=k:=(dS OK.out.p (l:=aT n) (fun m hm=>dJ _ hm) k (by have:=HSN.out;omega) bs Q (HAN.out trivial)).len;obtain ⟨ba,bc,hbe⟩:=hbv.len;rw [hbl] at hbe;subst hbe;have HBL:=aA hbl;have HP:=aA hp;have HBV:=aA hbv;have nH:=aA hrow;have HO:=aA ho;have c4:wr.cell? ⟨xb,4,none⟩=_:=hrow.cell 4 rfl;clear hp hbv hrow ho hbl
      by_cases hlt:k<sn
      ·have hlt1:(k:Int)<sn:=by omega
       have hk0:(0:Int)<=k:=by omega
       have hcs:wr.cell? ⟨g,k,none⟩=some (.int .i64 (gI (aT n) k)):=by
        rcases (aQV.out.only HO.out (fun g' hg'=>by cases hg';have:=HB.out;simp;omega)).form with ⟨e,_⟩|⟨g',c',e1,_,_,_,h5⟩
        ·cases e
        cases e1;exact h5 k (by have:=HSN.out;omega)
       have hal:=aDa wr p' b' Q HP.out (gI (aT n) k);obtain ⟨c,hc⟩:∃ z,z=gI (aT n) k:=⟨_,rfl⟩;rw [<-hc] at hcs hal;obtain ⟨r,hr⟩:∃ z,z=Q.alloc c:=⟨_,rfl⟩;rw [<-hr] at hal;have HR:=aA hr;have HC:=aA hc;obtain ⟨a1,e1,Q1⟩:=r;clear hr hc c4;go_wp2_with fail;refine hal.mono ?_;rintro e w5 ⟨rfl,hp5,ho5⟩;have HP5:Hid (dM w5 p' b' Q1):=hp5;have HO5:Hid (Only [xb,b'] w3 w5):=HO.out.trans ho5 (fun x hx=>.inl (by simp at hx;simp [hx]));have kC:Hid (Row w5 xb 184 [.int .i64 kd,.int .i64 cl,.int .i64 n,.slice ra rn rc,.slice ba k bc]):=ho5.row nH.out (by have:=HB.out;simp;omega);have uD:Hid (aO w5 b3 (.slice ba k bc) bs):=HBV.out.only ho5 (fun g' hg'=>by have:=(HBV.out.own g' hg').1;have:=HB.out;have:=HB3.out;simp;omega);have c4:w5.cell? ⟨xb,4,none⟩=_:=kC.out.cell 4 rfl;clear hal hp5 ho5 hcs nH HBV HO HP
       by_cases he:e1=0
       ·subst he;go_wp2_with (at_builtin;refine bI rfl _ _ rfl b3 _ _ rfl (uD.out.alloc _) w5.heap.size a1 rfl ?c1 ?c2 ?c3 ?c4)
        case c1=>exact (Row.new w5 _ [_]).cell 0 rfl
        case c2=>have:=HBL.out;omega
        case c3=>have:=HO5.out.size;have:=HB3.out;simp;omega
        case c4=>
         intro v' w6 hv6 ho6 hb6;obtain ⟨va',vc',hve⟩:=hv6.len;obtain ⟨nb,hnb⟩:∃ z,z=(bs ++ [a1]).length:=⟨_,rfl⟩;rw [<-hnb] at hve;subst hve;clear hnb hb6;have hown:∀ x∈(Value.slice ba k bc).ownBlock.toList,b3<=x:=fun x hx=>(uD.out.own x (by simpa using hx)).1;have hown1:∀ x∈(Value.slice ba k bc).ownBlock.toList,x<w5.heap.size:=fun x hx=>(uD.out.own x (by simpa using hx)).2;have hB:=HB.out;have hB3:=HB3.out;have hr6:=ho6.row (kC.out.alloc (.cells #[.int .i64 a1] 3)) (fun hx=>by have:=hown _ hx;omega);have f6:=hr6.free 4;have c6:w6.cell? ⟨xb,4,none⟩=_:=hr6.cell 4 rfl;have HP7:Hid (dM (w6.setCell ⟨xb,4,none⟩ (.slice va' nb vc')) p' b' Q1):=
          (((HP5.out.only ((Only.refl [] w5).alloc (.cells #[.int .i64 a1] 3)) (by simp) (by simp)).only ho6 (fun hx=>by have:=hown _ hx;omega) (fun hx=>by have:=hown _ hx;omega)).only ((Only.refl [xb] w6).set (p:=⟨xb,4,none⟩) (.inl (by simp)) (.slice va' nb vc')) (by simp;omega) (by simp;omega))
         have HV7:Hid (aO (w6.setCell ⟨xb,4,none⟩ (.slice va' nb vc')) b3 (.slice va' nb vc') (bs ++ [a1])):=hv6.only ((Only.refl [xb] w6).set (p:=⟨xb,4,none⟩) (.inl (by simp)) (.slice va' nb vc')) (fun g' hg'=>by have:=(hv6.own g' hg').1;simp;omega);have aBr:Hid (Row (w6.setCell ⟨xb,4,none⟩ (.slice va' nb vc')) xb 184 [.int .i64 kd,.int .i64 cl,.int .i64 n,.slice ra rn rc,(.slice va' nb vc')]):=hr6.set 4 (.slice va' nb vc');have HO7:Hid (Only [xb,b'] w3 (w6.setCell ⟨xb,4,none⟩ (.slice va' nb vc'))):=((HO5.out.alloc _).trans ho6 (fun x hx=>.inr (by have:=hown _ hx;omega))).set (.inl (by simp)) _;have aPm:Hid (True->dK M.P (aT n) (k+1)=some (bs ++ [a1],Q1)):=fun _=>by
          rw [iM (HAN.out trivial),<-HC.out,<-HR.out];rfl
         clear hv6 ho6 hown hown1 hB hB3 hr6 HP5 HO5 kC uD c4 HAN;go_wp2_with fail;exact ⟨⟨k+1,bs ++ [a1],Q1,(.slice va' nb vc'),by omega,by go_num,aPm,HP7.out,HV7.out,aBr.out,HO7.out⟩,by simp [intOf];omega⟩
       have aLX:Hid (True->M.add o=(0,14,M)):=fun _=>aBp (k:=k+1) (by rw [<-HN.out,<-HSN.out];omega) (by
        rw [<-HN.out,iM (HAN.out trivial),<-HC.out,<-HR.out];show (if e1=0 then _ else _)=_;rw [if_neg he])
       go_wp2_with fail;refine hR.out _ _ ?_;rw [aLX.out trivial];exact uV.none0 H.out (HO3.out.trans HO5.out (fun x hx=>.inr (by have:=HB.out;have:=HO3.out.size;simp at hx;rcases hx with rfl|rfl<;>omega)))
      obtain rfl:k=sn:=by omega
      obtain ⟨g4,hba,hbg,hbc⟩:∃ g4,ba=some ⟨g4,0,none⟩/\b3<=g4/\k<=bc:=by
       rcases HBV.out.form with ⟨e,e2⟩|⟨g4,c',e1,e2,_,e4,_⟩
       ·rw [e2] at HBL;have:=HBL.out;simp at this;omega
       cases e1;rw [HBL.out] at e4;exact ⟨g4,rfl,e2,e4⟩
      subst hba;have HG4:=aA hbg;have hcell:Hid (∀ i,i<k->∀ wx F,Only F wr wx->g4∉F->wx.cell? ⟨g4,i,none⟩=some (.int .i64 (gI bs i))):=fun i hi wx F hox hgf=>by
       rcases HBV.out.form with ⟨e,_⟩|⟨g',c',e1,_,_,_,h5⟩
       ·cases e
       cases e1;exact hox.cell (h5 i (by rw [HBL.out];exact hi)) hgf
      have b0:=hcell.out 0 (by omega) wr [] (Only.refl _ _) (by simp);have hset:=iG wr p' b' Q HP.out (gI bs 0) hN;obtain ⟨a0,ha0⟩:∃ z,z=gI bs 0:=⟨_,rfl⟩;rw [<-ha0] at b0 hset;have HA0:=aA ha0;obtain ⟨r,hr⟩:∃ z,z=Q.setCell a0 hN:=⟨_,rfl⟩;rw [<-hr] at hset;have HR:=aA hr;obtain ⟨e1,Q1⟩:=r;clear hr ha0 hbg;go_wp2_with fail;refine hset.mono ?_;rintro e w5 ⟨rfl,hp5,ho5⟩;have HP5:Hid (dM w5 p' b' Q1):=hp5;have HO5:Hid (Only [xb,b'] w3 w5):=HO.out.trans ho5 (fun x hx=>.inl (by simp at hx;simp [hx]));have kC:Hid (Row w5 xb 184 [.int .i64 kd,.int .i64 cl,.int .i64 n,.slice ra rn rc,.slice (some ⟨g4,0,none⟩) k bc]):=ho5.row nH.out (by have:=HB.out;simp;omega);have uD:Hid (aO w5 b3 (.slice (some ⟨g4,0,none⟩) k bc) bs):=HBV.out.only ho5 (fun g' hg'=>by have:=(HBV.out.own g' hg').1;have:=HB.out;have:=HB3.out;simp;omega);have c4':w5.cell? ⟨xb,4,none⟩=_:=kC.out.cell 4 rfl;have aQD:0<=a0/\a0<=384:=by
       have s:=dS OK.out.p (l:=aT n) (fun m hm=>dJ _ hm) k (by have:=HSN.out;omega) bs Q (HAN.out trivial);have h1:=(s.new 0 (by omega)).range (dJ _ (by have:=HSN.out;omega));have h2:=s.n;have h3:=OK.out.n24;rw [<-HA0.out] at h1;omega
      have qV:Hid (∀ i,i<k->∀ wx,Only [b'] w5 wx->wx.cell? ⟨g4,i,none⟩=some (.int .i64 (gI bs i))):=fun i hi wx hox=>by
       rcases uD.out.form with ⟨e,_⟩|⟨g',c',e1,_,_,_,h5⟩
       ·cases e
       cases e1;exact hox.cell (h5 i (by rw [HBL.out];exact hi)) (by have:=HG4.out;have:=HB.out;have:=HB3.out;simp;omega)
      clear hset hp5 ho5 nH HBV HO HP c4 b0 hcell
      by_cases hb1:bc=1
      ·subst hb1;obtain rfl:k=1:=by omega
       go_wp2_with fail;go_loopw [81] (fun iv wr=>iv=.int .i64 0/\w5=wr) (fun _ _=>0)
       case atStart=>exact ⟨rfl,rfl⟩
       case round=>
        obtain ⟨rfl,rfl⟩:=hrel;have HO9:Hid (Only [xb,b'] w3 w5):=HO5;have HP9:Hid (dM w5 p' b' (fK Q hN bs)):=by
         show dM _ _ _ (fK Q hN bs);have e:fK Q hN bs=Q1:=by
          unfold fK;rw [HBL.out,<-HA0.out,<-HR.out];rfl
         rw [e];exact HP5.out
        have yY:=kC;have aJP:=uD;clear HO5 HP5 kC uD c4' qV;generalize hw9:w5=w9 at*;clear hw9;have aBt:Hid (Only [] w0 w9):=HO3.out.trans HO9.out (fun x hx=>.inr (by have:=HB.out;have:=HO3.out.size;simp at hx;rcases hx with rfl|rfl<;>omega))
        have hH9:=(H.out.aN aBt.out);have e0:=hH9.cells.1;have e1':=hH9.cells.2.1;have ef:=hH9.cells.2.2 0;have hdone:=aBq (w9:=w9) (o:=o) (kd:=kd) (cl:=cl) (n:=n) (rv:=.slice ra rn rc) (T:=184) H.out OK.out (HLT.out trivial) (Q:=Q) (bs:=bs) (by
          have:=HAN.out trivial;rw [<-HN.out,<-HSN.out];exact this) (by rw [<-HHN.out trivial];exact HP9.out) aBt.out yY.out HKD.out HCL.out HN.out (aNI.out.only HO9.out (fun g' hg'=>by have:=HRB.out g' hg';have:=HB.out;simp;omega)) aJP.out (by have:=HB.out;omega) HRB.out HB.out.1 HB.out.2.1 (by have:=HB.out;have:=HB3.out;omega) (by have:=HB.out;have:=HB3.out;omega)
        rw [<-HHN.out trivial] at hdone;obtain ⟨w11,hrun,aEV⟩:=hdone;have aEr:=aA aEV;clear aEV hH9 HP9 yY aJP;go_wp2_with fail;exact hR.out _ _ aEr.out
      have hk1:k - 1<7:=by omega
      go_wp2_with fail;go_loopw [81] (fun iv wr=>∃ j:Nat,j<=k - 1/\iv=.int .i64 j/\dM wr p' b' (uQ Q1 (a0+1) (bs.drop 1) j)/\Only [b'] w5 wr) (fun iv _=>7 - (intOf iv).toNat)
      case atStart=>exact ⟨0,by omega,rfl,HP5.out,Only.refl _ _⟩
      case round=>
       obtain ⟨j,hj,rfl,hp,ho⟩:=hrel;have hROW:Row wr xb 184 [.int .i64 kd,.int .i64 cl,.int .i64 n,.slice ra rn rc,.slice (some ⟨g4,0,none⟩) k bc]:=ho.row kC.out (by have:=HB.out;simp;omega);have HPJ:=aA hp;have HOJ:=aA ho
       by_cases hlt:j<k - 1
       ·have hj1:=qV.out (1+j) (by omega) wr ho;have hj0:=qV.out 0 (by omega) wr ho;rw [<-HA0.out] at hj0;have c9:wr.cell? ⟨xb,4,none⟩=_:=hROW.cell 4 rfl;have hlt1:(j:Int)<((k - 1:Nat):Int):=by omega
        have aSI:(0:Int)<=j:=by omega
        have hset:=iG wr p' b' _ hp (a0+1+(j:Int)) (gI bs (1+j));have jZ:Hid (True->uQ Q1 (a0+1) (bs.drop 1) (j+1)=((uQ Q1 (a0+1) (bs.drop 1) j).setCell (a0+1+(j:Int)) (gI bs (1+j))).2):=fun _=>by
         show ((uQ Q1 (a0+1) (bs.drop 1) j).setCell (a0+1+(j:Int)) (gI (bs.drop 1) j)).2=_;congr 2;unfold gI;rw [List.getElem?_drop]
        generalize (uQ Q1 (a0+1) (bs.drop 1) j).setCell (a0+1+(j:Int)) (gI bs (1+j))=r at hset jZ;obtain ⟨f1,f2⟩:=r;generalize gI bs (1+j)=y at hj1 hset;clear hp ho hROW;go_wp2_with fail;refine hset.mono ?_;rintro e w6 ⟨rfl,hp6,ho6⟩;have HP6:Hid (dM w6 p' b' (uQ Q1 (a0+1) (bs.drop 1) (j+1))):=by
         show dM _ _ _ _;rw [jZ.out trivial];exact hp6
        have HO6:Hid (Only [b'] w5 w6):=HOJ.out.trans ho6 (fun x hx=>.inl hx);clear hp6 ho6 hset hj1 hj0 c9;go_wp2_with fail;exact ⟨⟨j+1,by omega,by go_num,HP6.out,HO6.out⟩,by simp [intOf];omega⟩
       have hjk:¬ (j:Int)<((k - 1:Nat):Int):=by omega
       have HO9:Hid (Only [xb,b'] w3 wr):=HO5.out.trans ho (fun x hx=>.inl (by simp at hx;simp [hx]));have HP9:Hid (dM wr p' b' (fK Q hN bs)):=by
        show dM _ _ _ (fK Q hN bs);have e:fK Q hN bs=uQ Q1 (a0+1) (bs.drop 1) j:=by
         unfold fK;rw [HBL.out,<-HA0.out,<-HR.out,show k - 1=j by omega]
        rw [e];exact hp
       have yY:Hid (Row wr xb 184 [.int .i64 kd,.int .i64 cl,.int .i64 n,.slice ra rn rc,.slice (some ⟨g4,0,none⟩) k bc]):=hROW;have aJP:Hid (aO wr b3 (.slice (some ⟨g4,0,none⟩) k bc) bs):=uD.out.only ho (fun g' hg'=>by have:=(uD.out.own g' hg').1;have:=HB.out;have:=HB3.out;simp;omega);clear HO5 HP5 kC uD c4' qV hp ho hROW HPJ HOJ;generalize hw9:wr=w9 at*;clear hw9;have aBt:Hid (Only [] w0 w9):=HO3.out.trans HO9.out (fun x hx=>.inr (by have:=HB.out;have:=HO3.out.size;simp at hx;rcases hx with rfl|rfl<;>omega))
       have hH9:=(H.out.aN aBt.out);have e0:=hH9.cells.1;have e1':=hH9.cells.2.1;have ef:=hH9.cells.2.2 0;have hdone:=aBq (w9:=w9) (o:=o) (kd:=kd) (cl:=cl) (n:=n) (rv:=.slice ra rn rc) (T:=184) H.out OK.out (HLT.out trivial) (Q:=Q) (bs:=bs) (by
         have:=HAN.out trivial;rw [<-HN.out,<-HSN.out];exact this) (by rw [<-HHN.out trivial];exact HP9.out) aBt.out yY.out HKD.out HCL.out HN.out (aNI.out.only HO9.out (fun g' hg'=>by have:=HRB.out g' hg';have:=HB.out;simp;omega)) aJP.out (by have:=HB.out;omega) HRB.out HB.out.1 HB.out.2.1 (by have:=HB.out;have:=HB3.out;omega) (by have:=HB.out;have:=HB3.out;omega)
       rw [<-HHN.out trivial] at hdone;obtain ⟨w11,hrun,aEV⟩:=hdone;have aEr:=aA aEV;clear aEV hH9 HP9 yY aJP;go_wp2_with fail;exact hR.out _ _ aEr.out
   have h7i:¬ (7:Int)<n:=by omega
   have HNE:Hid ([lU (1+n)]=aT n):=(wW h7).symm;have aDc:=aA (vS (w1.alloc (.cells #[.int .i64 (lU (1+n))] 3)) X.pp X.pb M.P (H.out.aN (HO1.out.trans HO2.out (by simp))).pool);go_wp2_with fail;generalize (w1.alloc (.cells #[.int .i64 (lU (1+n))] 3))=w2 at*;have HSG:Hid (xb<w1.heap.size):=hsz1;generalize hsg:w1.heap.size=sg at*;have aLW:=aA (show aO w2 sg (.slice (some ⟨sg,0,none⟩) 1 1) (aT n) by rw [<-HNE.out];exact HSZ.out);have HOB:Hid (Only [] w0 w2):=HO1.out.trans HO2.out (by simp);have aBs:Hid (Row w2 xb 184 [.int .i64 kd,.int .i64 cl,.int .i64 n,.slice ra rn rc,.slice none 0 0]):=HO2.out.row pJ.out (by simp);have aMt:Hid (Bls w2 w0.heap.size (.slice ra rn rc) o.kD):=aNJ.out.only HO2.out (by simp);generalize Value.slice (some ⟨sg,0,none⟩) 1 1=v7 at*;clear HSZ HNE hsg hw2 d0 d2 h7i aNJ pJ;obtain ⟨g,sc,hv7,aQf,hg2,hsc⟩:∃ g sc,v7=.slice (some ⟨g,0,none⟩) (aT n).length sc/\sg<=g/\g<w2.heap.size/\(aT n).length<=sc:=by
    rcases aLW.out.form with ⟨_,e⟩|⟨g,sc,e1,e2,e3,e4,_⟩
    ·have:=jP n;rw [e] at this;simp at this
    exact ⟨g,sc,e1,e2,e3,e4⟩
   subst hv7;have hs1:=jP n;have hs7:=vJ n aIJ;obtain ⟨sn,hsn⟩:∃ z,z=(aT n).length:=⟨_,rfl⟩;rw [<-hsn] at hs1 hs7 aLW hsc ⊢;have HSN:=aA hsn;clear hsn;refine aDc.out.mono ?_;rintro e w3 ⟨p',b',rfl,hp3,ho3,aQo,aQC⟩;have HO3:Hid (Only [] w0 w3):=HOB.out.trans ho3 (by simp);have aDb:Hid (Row w3 xb 184 [.int .i64 kd,.int .i64 cl,.int .i64 n,.slice ra rn rc,.slice none 0 0]):=ho3.row aBs.out (by simp);have aNI:Hid (Bls w3 w0.heap.size (.slice ra rn rc) o.kD):=aMt.out.only ho3 (by simp);have aQV:Hid (aO w3 sg (.slice (some ⟨g,0,none⟩) sn sc) (aT n)):=aLW.out.only ho3 (by simp);obtain ⟨_,_,_,_,hf1,hf2⟩:=hp3.facts;have HB:Hid (xb<p'/\xb<b'/\g<b'/\xb<g/\p'<w3.heap.size/\b'<w3.heap.size/\p'≠b'/\w0.heap.size<=xb):=⟨by have:=HSG.out;omega,by have:=HSG.out;omega,by omega,by have:=HSG.out;omega,hf1,hf2,hp3.ne,HX.out⟩;have HP3:=aA hp3;clear aDc HO2 HO1 HOB aBs aMt aLW ho3 aQo aQC hf1 hf2 hp3 aQf hg2;obtain ⟨b3,hb3⟩:∃ z,z=w3.heap.size:=⟨_,rfl⟩;have HB3:=aA hb3;clear hb3;go_wp2_with fail;go_loopw [51] (fun iv wr=>∃ (k:Nat) (bs:List Int) (Q:Pl) (bv:Value),k<=sn/\iv=.int .i64 k/\Hid (True->dK M.P (aT n) k=some (bs,Q))/\dM wr p' b' Q/\aO wr b3 bv bs/\Row wr xb 184 [.int .i64 kd,.int .i64 cl,.int .i64 n,.slice ra rn rc,bv]/\Only [xb,b'] w3 wr) (fun iv _=>sn - (intOf iv).toNat)
   case atStart=>exact ⟨0,[],M.P,.slice none 0 0,by omega,rfl,fun _=>rfl,HP3.out,aO.nil _ _,aDb.out,Only.refl _ _⟩
   case round=>
    clear HP3 aDb;obtain ⟨k,bs,Q,bv,hk,rfl,HAN,hp,hbv,hrow,ho⟩:=hrel;have hbl:bs.length=k:=(dS OK.out.p (l:=aT n) (fun m hm=>dJ _ hm) k (by have:=HSN.out;omega) bs Q (HAN.out trivial)).len;obtain ⟨ba,bc,hbe⟩:=hbv.len;rw [hbl] at hbe;subst hbe;have HBL:=aA hbl;have HP:=aA hp;have HBV:=aA hbv;have nH:=aA hrow;have HO:=aA ho;have c4:wr.cell? ⟨xb,4,none⟩=_:=hrow.cell 4 rfl;clear hp hbv hrow ho hbl
    by_cases hlt:k<sn
    ·have hlt1:(k:Int)<sn:=by omega
     have hk0:(0:Int)<=k:=by omega
     have hcs:wr.cell? ⟨g,k,none⟩=some (.int .i64 (gI (aT n) k)):=by
      rcases (aQV.out.only HO.out (fun g' hg'=>by cases hg';have:=HB.out;simp;omega)).form with ⟨e,_⟩|⟨g',c',e1,_,_,_,h5⟩
      ·cases e
      cases e1;exact h5 k (by have:=HSN.out;omega)
     have hal:=aDa wr p' b' Q HP.out (gI (aT n) k);obtain ⟨c,hc⟩:∃ z,z=gI (aT n) k:=⟨_,rfl⟩;rw [<-hc] at hcs hal;obtain ⟨r,hr⟩:∃ z,z=Q.alloc c:=⟨_,rfl⟩;rw [<-hr] at hal;have HR:=aA hr;have HC:=aA hc;obtain ⟨a1,e1,Q1⟩:=r;clear hr hc c4;go_wp2_with fail;refine hal.mono ?_;rintro e w5 ⟨rfl,hp5,ho5⟩;have HP5:Hid (dM w5 p' b' Q1):=hp5;have HO5:Hid (Only [xb,b'] w3 w5):=HO.out.trans ho5 (fun x hx=>.inl (by simp at hx;simp [hx]));have kC:Hid (Row w5 xb 184 [.int .i64 kd,.int .i64 cl,.int .i64 n,.slice ra rn rc,.slice ba k bc]):=ho5.row nH.out (by have:=HB.out;simp;omega);have uD:Hid (aO w5 b3 (.slice ba k bc) bs):=HBV.out.only ho5 (fun g' hg'=>by have:=(HBV.out.own g' hg').1;have:=HB.out;have:=HB3.out;simp;omega);have c4:w5.cell? ⟨xb,4,none⟩=_:=kC.out.cell 4 rfl;clear hal hp5 ho5 hcs nH HBV HO HP
     by_cases he:e1=0
     ·subst he;go_wp2_with (at_builtin;refine bI rfl _ _ rfl b3 _ _ rfl (uD.out.alloc _) w5.heap.size a1 rfl ?c1 ?c2 ?c3 ?c4)
      case c1=>exact (Row.new w5 _ [_]).cell 0 rfl
      case c2=>have:=HBL.out;omega
      case c3=>have:=HO5.out.size;have:=HB3.out;simp;omega
      case c4=>
       intro v' w6 hv6 ho6 hb6;obtain ⟨va',vc',hve⟩:=hv6.len;obtain ⟨nb,hnb⟩:∃ z,z=(bs ++ [a1]).length:=⟨_,rfl⟩;rw [<-hnb] at hve;subst hve;clear hnb hb6;have hown:∀ x∈(Value.slice ba k bc).ownBlock.toList,b3<=x:=fun x hx=>(uD.out.own x (by simpa using hx)).1;have hown1:∀ x∈(Value.slice ba k bc).ownBlock.toList,x<w5.heap.size:=fun x hx=>(uD.out.own x (by simpa using hx)).2;have hB:=HB.out;have hB3:=HB3.out;have hr6:=ho6.row (kC.out.alloc (.cells #[.int .i64 a1] 3)) (fun hx=>by have:=hown _ hx;omega);have f6:=hr6.free 4;have c6:w6.cell? ⟨xb,4,none⟩=_:=hr6.cell 4 rfl;have HP7:Hid (dM (w6.setCell ⟨xb,4,none⟩ (.slice va' nb vc')) p' b' Q1):=
        (((HP5.out.only ((Only.refl [] w5).alloc (.cells #[.int .i64 a1] 3)) (by simp) (by simp)).only ho6 (fun hx=>by have:=hown _ hx;omega) (fun hx=>by have:=hown _ hx;omega)).only ((Only.refl [xb] w6).set (p:=⟨xb,4,none⟩) (.inl (by simp)) (.slice va' nb vc')) (by simp;omega) (by simp;omega))
       have HV7:Hid (aO (w6.setCell ⟨xb,4,none⟩ (.slice va' nb vc')) b3 (.slice va' nb vc') (bs ++ [a1])):=hv6.only ((Only.refl [xb] w6).set (p:=⟨xb,4,none⟩) (.inl (by simp)) (.slice va' nb vc')) (fun g' hg'=>by have:=(hv6.own g' hg').1;simp;omega);have aBr:Hid (Row (w6.setCell ⟨xb,4,none⟩ (.slice va' nb vc')) xb 184 [.int .i64 kd,.int .i64 cl,.int .i64 n,.slice ra rn rc,(.slice va' nb vc')]):=hr6.set 4 (.slice va' nb vc');have HO7:Hid (Only [xb,b'] w3 (w6.setCell ⟨xb,4,none⟩ (.slice va' nb vc'))):=((HO5.out.alloc _).trans ho6 (fun x hx=>.inr (by have:=hown _ hx;omega))).set (.inl (by simp)) _;have aPm:Hid (True->dK M.P (aT n) (k+1)=some (bs ++ [a1],Q1)):=fun _=>by
        rw [iM (HAN.out trivial),<-HC.out,<-HR.out];rfl
       clear hv6 ho6 hown hown1 hB hB3 hr6 HP5 HO5 kC uD c4 HAN;go_wp2_with fail;exact ⟨⟨k+1,bs ++ [a1],Q1,(.slice va' nb vc'),by omega,by go_num,aPm,HP7.out,HV7.out,aBr.out,HO7.out⟩,by simp [intOf];omega⟩
     have aLX:Hid (True->M.add o=(0,14,M)):=fun _=>aBp (k:=k+1) (by rw [<-HN.out,<-HSN.out];omega) (by
      rw [<-HN.out,iM (HAN.out trivial),<-HC.out,<-HR.out];show (if e1=0 then _ else _)=_;rw [if_neg he])
     go_wp2_with fail;refine hR.out _ _ ?_;rw [aLX.out trivial];exact uV.none0 H.out (HO3.out.trans HO5.out (fun x hx=>.inr (by have:=HB.out;have:=HO3.out.size;simp at hx;rcases hx with rfl|rfl<;>omega)))
    obtain rfl:k=sn:=by omega
    obtain ⟨g4,hba,hbg,hbc⟩:∃ g4,ba=some ⟨g4,0,none⟩/\b3<=g4/\k<=bc:=by
     rcases HBV.out.form with ⟨e,e2⟩|⟨g4,c',e1,e2,_,e4,_⟩
     ·rw [e2] at HBL;have:=HBL.out;simp at this;omega
     cases e1;rw [HBL.out] at e4;exact ⟨g4,rfl,e2,e4⟩
    subst hba;have HG4:=aA hbg;have hcell:Hid (∀ i,i<k->∀ wx F,Only F wr wx->g4∉F->wx.cell? ⟨g4,i,none⟩=some (.int .i64 (gI bs i))):=fun i hi wx F hox hgf=>by
     rcases HBV.out.form with ⟨e,_⟩|⟨g',c',e1,_,_,_,h5⟩
     ·cases e
     cases e1;exact hox.cell (h5 i (by rw [HBL.out];exact hi)) hgf
    have b0:=hcell.out 0 (by omega) wr [] (Only.refl _ _) (by simp);have hset:=iG wr p' b' Q HP.out (gI bs 0) hN;obtain ⟨a0,ha0⟩:∃ z,z=gI bs 0:=⟨_,rfl⟩;rw [<-ha0] at b0 hset;have HA0:=aA ha0;obtain ⟨r,hr⟩:∃ z,z=Q.setCell a0 hN:=⟨_,rfl⟩;rw [<-hr] at hset;have HR:=aA hr;obtain ⟨e1,Q1⟩:=r;clear hr ha0 hbg;go_wp2_with fail;refine hset.mono ?_;rintro e w5 ⟨rfl,hp5,ho5⟩;have HP5:Hid (dM w5 p' b' Q1):=hp5;have HO5:Hid (Only [xb,b'] w3 w5):=HO.out.trans ho5 (fun x hx=>.inl (by simp at hx;simp [hx]));have kC:Hid (Row w5 xb 184 [.int .i64 kd,.int .i64 cl,.int .i64 n,.slice ra rn rc,.slice (some ⟨g4,0,none⟩) k bc]):=ho5.row nH.out (by have:=HB.out;simp;omega);have uD:Hid (aO w5 b3 (.slice (some ⟨g4,0,none⟩) k bc) bs):=HBV.out.only ho5 (fun g' hg'=>by have:=(HBV.out.own g' hg').1;have:=HB.out;have:=HB3.out;simp;omega);have c4':w5.cell? ⟨xb,4,none⟩=_:=kC.out.cell 4 rfl;have aQD:0<=a0/\a0<=384:=by
     have s:=dS OK.out.p (l:=aT n) (fun m hm=>dJ _ hm) k (by have:=HSN.out;omega) bs Q (HAN.out trivial);have h1:=(s.new 0 (by omega)).range (dJ _ (by have:=HSN.out;omega));have h2:=s.n;have h3:=OK.out.n24;rw [<-HA0.out] at h1;omega
    have qV:Hid (∀ i,i<k->∀ wx,Only [b'] w5 wx->wx.cell? ⟨g4,i,none⟩=some (.int .i64 (gI bs i))):=fun i hi wx hox=>by
     rcases uD.out.form with ⟨e,_⟩|⟨g',c',e1,_,_,_,h5⟩
     ·cases e
     cases e1;exact hox.cell (h5 i (by rw [HBL.out];exact hi)) (by have:=HG4.out;have:=HB.out;have:=HB3.out;simp;omega)
    clear hset hp5 ho5 nH HBV HO HP c4 b0 hcell
    by_cases hb1:bc=1
    ·subst hb1;obtain rfl:k=1:=by omega
     go_wp2_with fail;go_loopw [81] (fun iv wr=>iv=.int .i64 0/\w5=wr) (fun _ _=>0)
     case atStart=>exact ⟨rfl,rfl⟩
     case round=>
      obtain ⟨rfl,rfl⟩:=hrel;have HO9:Hid (Only [xb,b'] w3 w5):=HO5;have HP9:Hid (dM w5 p' b' (fK Q hN bs)):=by
       show dM _ _ _ (fK Q hN bs);have e:fK Q hN bs=Q1:=by
        unfold fK;rw [HBL.out,<-HA0.out,<-HR.out];rfl
       rw [e];exact HP5.out
      have yY:=kC;have aJP:=uD;clear HO5 HP5 kC uD c4' qV;generalize hw9:w5=w9 at*;clear hw9;have aBt:Hid (Only [] w0 w9):=HO3.out.trans HO9.out (fun x hx=>.inr (by have:=HB.out;have:=HO3.out.size;simp at hx;rcases hx with rfl|rfl<;>omega))
      have hH9:=(H.out.aN aBt.out);have e0:=hH9.cells.1;have e1':=hH9.cells.2.1;have ef:=hH9.cells.2.2 0;have hdone:=aBq (w9:=w9) (o:=o) (kd:=kd) (cl:=cl) (n:=n) (rv:=.slice ra rn rc) (T:=184) H.out OK.out (HLT.out trivial) (Q:=Q) (bs:=bs) (by
        have:=HAN.out trivial;rw [<-HN.out,<-HSN.out];exact this) (by rw [<-HHN.out trivial];exact HP9.out) aBt.out yY.out HKD.out HCL.out HN.out (aNI.out.only HO9.out (fun g' hg'=>by have:=HRB.out g' hg';have:=HB.out;simp;omega)) aJP.out (by have:=HB.out;omega) HRB.out HB.out.1 HB.out.2.1 (by have:=HB.out;have:=HB3.out;omega) (by have:=HB.out;have:=HB3.out;omega)
      rw [<-HHN.out trivial] at hdone;obtain ⟨w11,hrun,aEV⟩:=hdone;have aEr:=aA aEV;clear aEV hH9 HP9 yY aJP;go_wp2_with fail;exact hR.out _ _ aEr.out
    have hk1:k - 1<7:=by omega
    go_wp2_with fail;go_loopw [81] (fun iv wr=>∃ j:Nat,j<=k - 1/\iv=.int .i64 j/\dM wr p' b' (uQ Q1 (a0+1) (bs.drop 1) j)/\Only [b'] w5 wr) (fun iv _=>7 - (intOf iv).toNat)
    case atStart=>exact ⟨0,by omega,rfl,HP5.out,Only.refl _ _⟩
    case round=>
     obtain ⟨j,hj,rfl,hp,ho⟩:=hrel;have hROW:Row wr xb 184 [.int .i64 kd,.int .i64 cl,.int .i64 n,.slice ra rn rc,.slice (some ⟨g4,0,none⟩) k bc]:=ho.row kC.out (by have:=HB.out;simp;omega);have HPJ:=aA hp;have HOJ:=aA ho
     by_cases hlt:j<k - 1
     ·have hj1:=qV.out (1+j) (by omega) wr ho;have hj0:=qV.out 0 (by omega) wr ho;rw [<-HA0.out] at hj0;have c9:wr.cell? ⟨xb,4,none⟩=_:=hROW.cell 4 rfl;have hlt1:(j:Int)<((k - 1:Nat):Int):=by omega
      have aSI:(0:Int)<=j:=by omega
      have hset:=iG wr p' b' _ hp (a0+1+(j:Int)) (gI bs (1+j));have jZ:Hid (True->uQ Q1 (a0+1) (bs.drop 1) (j+1)=((uQ Q1 (a0+1) (bs.drop 1) j).setCell (a0+1+(j:Int)) (gI bs (1+j))).2):=fun _=>by
       show ((uQ Q1 (a0+1) (bs.drop 1) j).setCell (a0+1+(j:Int)) (gI (bs.drop 1) j)).2=_;congr 2;unfold gI;rw [List.getElem?_drop]
      generalize (uQ Q1 (a0+1) (bs.drop 1) j).setCell (a0+1+(j:Int)) (gI bs (1+j))=r at hset jZ;obtain ⟨f1,f2⟩:=r;generalize gI bs (1+j)=y at hj1 hset;clear hp ho hROW;go_wp2_with fail;refine hset.mono ?_;rintro e w6 ⟨rfl,hp6,ho6⟩;have HP6:Hid (dM w6 p' b' (uQ Q1 (a0+1) (bs.drop 1) (j+1))):=by
       show dM _ _ _ _;rw [jZ.out trivial];exact hp6
      have HO6:Hid (Only [b'] w5 w6):=HOJ.out.trans ho6 (fun x hx=>.inl hx);clear hp6 ho6 hset hj1 hj0 c9;go_wp2_with fail;exact ⟨⟨j+1,by omega,by go_num,HP6.out,HO6.out⟩,by simp [intOf];omega⟩
     have hjk:¬ (j:Int)<((k - 1:Nat):Int):=by omega
     have HO9:Hid (Only [xb,b'] w3 wr):=HO5.out.trans ho (fun x hx=>.inl (by simp at hx;simp [hx]));have HP9:Hid (dM wr p' b' (fK Q hN bs)):=by
      show dM _ _ _ (fK Q hN bs);have e:fK Q hN bs=uQ Q1 (a0+1) (bs.drop 1) j:=by
       unfold fK;rw [HBL.out,<-HA0.out,<-HR.out,show k - 1=j by omega]
      rw [e];exact hp
     have yY:Hid (Row wr xb 184 [.int .i64 kd,.int .i64 cl,.int .i64 n,.slice ra rn rc,.slice (some ⟨g4,0,none⟩) k bc]):=hROW;have aJP:Hid (aO wr b3 (.slice (some ⟨g4,0,none⟩) k bc) bs):=uD.out.only ho (fun g' hg'=>by have:=(uD.out.own g' hg').1;have:=HB.out;have:=HB3.out;simp;omega);clear HO5 HP5 kC uD c4' qV hp ho hROW HPJ HOJ;generalize hw9:wr=w9 at*;clear hw9;have aBt:Hid (Only [] w0 w9):=HO3.out.trans HO9.out (fun x hx=>.inr (by have:=HB.out;have:=HO3.out.size;simp at hx;rcases hx with rfl|rfl<;>omega))
     have hH9:=(H.out.aN aBt.out);have e0:=hH9.cells.1;have e1':=hH9.cells.2.1;have ef:=hH9.cells.2.2 0;have hdone:=aBq (w9:=w9) (o:=o) (kd:=kd) (cl:=cl) (n:=n) (rv:=.slice ra rn rc) (T:=184) H.out OK.out (HLT.out trivial) (Q:=Q) (bs:=bs) (by
       have:=HAN.out trivial;rw [<-HN.out,<-HSN.out];exact this) (by rw [<-HHN.out trivial];exact HP9.out) aBt.out yY.out HKD.out HCL.out HN.out (aNI.out.only HO9.out (fun g' hg'=>by have:=HRB.out g' hg';have:=HB.out;simp;omega)) aJP.out (by have:=HB.out;omega) HRB.out HB.out.1 HB.out.2.1 (by have:=HB.out;have:=HB3.out;omega) (by have:=HB.out;have:=HB3.out;omega)
     rw [<-HHN.out trivial] at hdone;obtain ⟨w11,hrun,aEV⟩:=hdone;have aEr:=aA aEV;clear aEV hH9 HP9 yY aJP;go_wp2_with fail;exact hR.out _ _ aEr.out
end
end Go.Proofs.YthflghdaejbdkaaGreat
