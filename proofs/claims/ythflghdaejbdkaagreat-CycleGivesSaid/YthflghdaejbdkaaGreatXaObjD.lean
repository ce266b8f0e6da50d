/- Lemmas of this claim. -/
import Derived.Test.YthflghdaejbdkaaGreatXaObj
namespace Go.Proofs.YthflghdaejbdkaaGreat
open Go.RowKit Go.Maps
set_option maxHeartbeats 3200000
set_option maxRecDepth 100000
set_option linter.unusedVariables false
section
variable {w w':World} {L:Nat->Option Lb} {hb:Nat} {M:Hp} {X:HX}
theorem dJ.aPx {P:Pl} {ob:Int->Option Th} (h:dJ w L hb ⟨P,ob⟩ X) {x:Int} (hg:aI (·=X.mb) w w') (hm:dL w' X.mb 192 (fun k=>if k=x then none else (ob k).map fun _=>X.blk k)):dJ w' L hb ⟨P,eU ob x none⟩ X:=by
 have hP:aI (fun k=>L k=some .map) w w':=hg.mono (fun y hy=>.inl (by rw [hy];exact h.Lp));have z:∀ k ℓ,ℓ≠Lb.map->L k=some .map->L k≠some ℓ:=fun k ℓ h1 hk e=>by rw [hk] at e;cases e;exact h1 rfl
 refine ⟨fun k hk=>Nat.lt_of_lt_of_le (h.lt k hk) hP.size,?_,h.Lm,h.pool.bY hP (fun y=>z _ .pool (by simp) y h.Lpp) (fun y=>z _ .pages (by simp) y h.Lpb),h.Lpp,h.Lpb,?_,h.Lp,fun k o' hk=>?_⟩
 ·obtain ⟨T,hr⟩:=h.mem;exact ⟨T,hP.row hr (fun y=>z _ .mem (by simp) y h.Lm)⟩
 ·refine hm.congr (fun k=>?_);show _=(eU ob x none k).map _;unfold eU
  by_cases e:k=x
  ·rw [if_pos e,if_pos e];rfl
  rw [if_neg e,if_neg e]
 have h1:ob k=some o':=by
  have d:eU ob x none k=some o':=hk
  by_cases e:k=x
  ·rw [e,aY] at d;cases d
  rw [bF _ _ e] at d;exact d
 exact (h.th k o' h1).only hP (fun y hy=>⟨z y _ (by simp) hy,z y _ (by simp) hy,z y _ (by simp) hy⟩)
theorem aCl (w:World) (h:dJ w L hb M X) (x:Int) (hx:wfI x) (y:M.ob x=none):Calls Tryz.prog 300 #[.pointer (some ⟨hb,0,none⟩),.int .i64 x] w (aO w (.int .i64 3)):=by
 refine aF fun R d=>?_;have z:=nJ w h x hx y;clear h y;go_in;go_wp2_with fail;refine z.mono ?_;rintro e _ ⟨rfl,rfl⟩;go_wp2;exact d.out _ _ ⟨rfl,rfl⟩
theorem Hp.xI {M:Hp} {h:Int}:M.refers h h=false:=by unfold Hp.refers;simp
theorem Hp.aDX {M:Hp} {h k:Int} {o:Th} (z:M.ob k=some o) (y:k≠h):M.refers h k=decide (h∈o.vO):=by unfold Hp.refers;rw [z];simp [y]
theorem aCk (w:World) (h:dJ w L hb M X) (hk:M.Ok) (x:Int) (hx:wfI x) {o:Th} (ho:M.ob x=some o):Calls Tryz.prog 300 #[.pointer (some ⟨hb,0,none⟩),.int .i64 x] w (vU w L hb (.int .i64 (M.release x).1) (M.release x).2):=by
 refine aF fun R hR=>?_;have b9:M.release x=if M.held x then (13,M) else (0,M.drop x o):=by unfold Hp.release;rw [ho]
 have a1:=aA b9;have h1:=lF w h x hx ho;have c1:=h.cells.2.1;obtain ⟨D0,y4,a7⟩:=h.mp;have y3:lX D0 (fun k=>(M.ob k).map fun _=>X.blk k):=a7;have HD:=aA y3
 have H:=aA h;have HK:=aA hk;have y0:=aA ho;have a4:=aA y4;obtain ⟨mb,z5⟩:∃ m,m=X.mb:=⟨_,rfl⟩;rw [<-z5] at c1 a4;have x9:=aA z5;have d1:Hid (wfI x):=hx;clear b9 h hk ho y3 a7 y4 z5 hx;go_in;go_wp2_with fail;refine h1.mono ?_;rintro e _ ⟨rfl,rfl⟩;clear h1;go_wp2_with (at_range;refine wpList_range_own _ rfl _ 173 rfl 3 172 dZ Tryz.underlying173 bP mb 192 D0 rfl a4.out ?_;intro w0 y5 b4 d6);go_frame;have Q0:Only [] w w0:=(Only.refl [] w).grown b4 (fun k hk=>by cases hk);clear c1;go_loopw [7] (fun _ wr=>∃ h7 cnt,wr.ranges Tryz.prog 3 bP mb w.heap.size 192 D0 h7 cnt/\Hid (∀ k,wfI k->(M.ob k).isSome=true->h7 (.int .i64 k)=false->M.refers x k=false)/\Only [] w wr) (fun _ wr=>wr.rangeLeft mb w.heap.size)
 case atStart=>
  refine ⟨_,_,y5,fun k hk h3 h4=>?_,Q0⟩;rw [(HD.out k hk).1] at h4
  cases e:M.ob k with
  | none=>rw [e] at h3;cases h3
  | some t=>simp [e] at h4
 case round=>
  clear y5 b4 d6 Q0;obtain ⟨h7,cnt,c0,HF,hO⟩:=hrel;have y8:=aA c0;have HO:=aA hO;clear c0 hO;go_wp2_with (at_next;refine eG rfl _ rfl mb w.heap.size 192 D0 h7 cnt _ HD.out rfl y8.out ?_ ?_)
  ·intro _ b5;have z1:Hid (M.held x=false):=by
    show _=_
    cases e:M.held x
    ·rfl
    obtain ⟨k,d8,x2⟩:=Hp.rF.1 e;have h2:(M.ob ((k:Int)+1)).isSome=true:=by
     unfold Hp.refers at x2
     cases e2:M.ob ((k:Int)+1) with
     | none=>rw [e2] at x2;simp at x2
     | some t=>rfl
    have:=HF.out ((k:Int)+1) (dN (by omega)) h2 (b5 _);rw [this] at x2;cases x2
   clear b5;have d:=H.out.aK HO.out;obtain ⟨b1,d5,_⟩:=HK.out.aBJ y0.out;obtain ⟨g,cap,eb,z2⟩:=(d.th x o y0.out).bl.cellsOf b1;have c4:=(d.th x o y0.out).cells.2.2.2.2;rw [eb] at c4;have c7:Hid (L g=some (.bl x)):=(d.th x o y0.out).Ll g (by rw [eb];rfl);obtain ⟨nb,z6⟩:∃ n,n=o.blocks.length:=⟨_,rfl⟩;rw [<-z6] at c4 z2 d5;have z9:=aA z2;have c8:=aA z6;have b0:=aA d;clear eb z2 d z6 b1;obtain ⟨w9,c3⟩:∃ z,z=wr:=⟨_,rfl⟩;rw [<-c3] at HO b0 z9 c4 ⊢;clear c3 y8 HF;go_wp2;go_loopw [45] (fun iv wr=>∃ j:Nat,j<=nb/\iv=.int .i64 j/\dJ wr L hb ⟨iH M.P o.blocks j,M.ob⟩ X/\Only [X.pb] w9 wr) (fun iv _=>nb - (intOf iv).toNat)
   case atStart=>exact ⟨0,by omega,rfl,b0.out,Only.refl _ _⟩
   case round=>
    clear c4;obtain ⟨j,hj,rfl,d,ho⟩:=hrel;have lW:=aA d;have y6:=aA ho;clear d ho;have z4:g∉[X.pb]:=by simp;rintro rfl;have:=lW.out.Lpb;rw [c7.out] at this;cases this
    by_cases x4:j<nb
    ·have b2:=y6.out.cell (z9.out j x4) z4;have h0:=lW.out.cells.1;have e3:(0:Int)<=j:=by omega
     have e4:(j:Int)<nb:=by omega
     have h6:=aMo wr X.pp X.pb (iH M.P o.blocks j) lW.out.pool (gI o.blocks j);have x8:Hid (iH M.P o.blocks (j+1)=((iH M.P o.blocks j).free (gI o.blocks j)).2):=rfl;generalize (iH M.P o.blocks j).free (gI o.blocks j)=fr at h6 x8;obtain ⟨f1,f2⟩:=fr;generalize gI o.blocks j=a at b2 h6;clear z4;go_wp2_with fail;refine h6.mono ?_;rintro e w5 ⟨rfl,b8,z7⟩;have d3:Hid (dJ w5 L hb ⟨iH M.P o.blocks (j+1),M.ob⟩ X):=by
      show dJ _ _ _ _ _;rw [x8.out];exact lW.out.gK z7 b8 (fun _=>rfl) (fun k o' h2=>⟨o',h2,Th.Shape.refl _⟩)
     have c9:=aA (y6.out.trans z7 (fun y hy=>.inl hy));clear b8 z7 h6 b2 h0;go_wp2;exact ⟨⟨j+1,by omega,by go_num,d3.out,c9.out⟩,by simp [intOf];omega⟩
    obtain rfl:j=nb:=by omega
    have c1:=lW.out.cells.2.1;rw [<-x9.out] at c1;obtain ⟨D1,h8,a9⟩:=lW.out.mp;have b3:lX D1 (fun k=>(M.ob k).map fun _=>X.blk k):=a9;have c6:=aA b3;rw [<-x9.out] at h8;have d4:=aA h8;clear a9 b3 h8 z4;go_wp2_with (at_delete;refine wpList_delete_own _ rfl _ _ 173 3 rfl 172 dZ Tryz.underlying173 bP mb 192 D1 rfl d4.out _ _ rfl (aLP d1.out) ?_;intro w6 x7 a8);have O6:aI (·=X.mb) wr w6:=(aI.refl _ wr).grown a8.grown (fun k hk=>by cases hk;exact .inl x9.out);have b7:dL w6 X.mb 192 (fun k=>if k=x then none else (M.ob k).map fun _=>X.blk k):=⟨_,by rw [<-x9.out];exact x7,c6.out.del x⟩;have d2:=aA (lW.out.aPx O6 b7);have d0:Hid (aI (fun k=>L k≠none) w w6):=by
     have q1:aI (fun k=>L k≠none) w w9:=HO.out.vM;have q2:aI (fun k=>L k≠none) w9 wr:=y6.out.toP (fun y hy=>.inl (by simp at hy;rw [hy,H.out.Lpb];simp));have q3:aI (fun k=>L k≠none) wr w6:=O6.mono (fun y hy=>.inl (by rw [hy,H.out.Lp];simp));exact (q1.trans q2 (fun y hy=>.inl hy)).trans q3 (fun y hy=>.inl hy)
    clear O6 b7 x7 a8 c1;go_wp2_with fail;refine hR.out _ _ ?_;rw [a1.out,z1.out];refine ⟨rfl,L,X,?_,fun k hk=>.inl hk,d0.out⟩;have e:M.drop x o=⟨iH M.P o.blocks j,eU M.ob x none⟩:=by unfold Hp.drop;rw [c8.out]
    rw [show (if false=true then ((13:Int),M) else (0,M.drop x o)).2=M.drop x o from rfl,e];exact d2.out
  intro k c w1 x5 z8 b6 t ht hc x6 x4 z3 c2 d9;have y9:Hid (Only [] w w1):=HO.out.grown z3 (fun j hj=>by cases hj;exact .inr (Nat.le_refl _));have d:=H.out.aK y9.out;have a6:x5<wr.rangeLeft mb w.heap.size:=by rw [y8.out.left_eq];exact x4
  have y7:=aA x6;have kE:Hid (M.refers x k=false->∀ j,wfI j->(M.ob j).isSome=true->(h7 (.int .i64 j) && !(Lit.int .i64 j).sameKey (.int .i64 k))=false->M.refers x j=false):=fun e0 j hj e1 e2=>by
   by_cases e:j=k
   ·subst e;exact e0
   refine HF.out j hj e1 ?_;rw [aID j k z8] at e2;simp [e] at e2;exact e2
  by_cases x3:k=x
  ·have z0:Hid (M.refers x k=false):=by show _=_;rw [x3];exact Hp.xI
   subst x3;clear x6 b6 x4 z3 c2 hc d z8 ht;go_wp2;exact ⟨⟨_,x5,y7.out,kE.out z0.out,y9.out⟩,by rw [y7.out.left_eq];exact a6⟩
  have e5:(k != x)=true:=by simpa using x3
  have h9:=aCn w1 d HK.out ht;rw [hc] at h9;have a3:Hid (M.refers x k=decide (x∈t.vO)):=Hp.aDX ht x3;have c5:Hid (t.vO.length<=48):=by
   have h2:=t.mP t.slots.length;have h3:=(HK.out.th k t ht).le;show (t.fZ t.slots.length).length<=48;omega
  have a0:Hid (1<=k/\k<=192):=HK.out.hr k t ht;generalize t.vO=rl at*;clear x6 b6 x4 z3 c2 hc d z8 ht x3;go_wp2_with fail;refine h9.mono ?_;rintro e w2 ⟨v2,rfl,y1,y2⟩;have a5:=aA (y9.out.trans y2 (by simp));have a2:=aA (pF y7.out (y2.vM (S:=fun _=>False)) (fun x=>x) (fun x=>x));have h5:=oZ w2 v2 rl y1.read (by have:=c5.out;omega) x;obtain ⟨e6,e7,d7⟩:=y1.len;subst d7;generalize rl.length=rn at *
  cases x1:decide (x∈rl)
  ·rw [x1] at h5;have z0:Hid (M.refers x k=false):=by show _=_;rw [a3.out,x1]
   clear y1 y2 h9 x1;go_wp2_with fail;refine h5.mono ?_;rintro e _ ⟨rfl,rfl⟩;clear h5;go_wp2;exact ⟨⟨_,x5,a2.out,kE.out z0.out,a5.out⟩,by rw [a2.out.left_eq];exact a6⟩
  rw [x1] at h5;have z1:Hid (M.held x=true):=Hp.rF.2 ⟨k.toNat - 1,by have:=a0.out;omega,by
   rw [show ((k.toNat - 1:Nat):Int)+1=k by have:=a0.out;omega,a3.out,x1]⟩
  clear y1 y2 h9 x1;go_wp2_with fail;refine h5.mono ?_;rintro e _ ⟨rfl,rfl⟩;clear h5;go_wp2_with fail;refine hR.out _ _ ?_;rw [a1.out,z1.out];exact vU.none0 H.out a5.out
theorem aDW (w:World) (h:dJ w L hb M X) (z:M.Ok) (x:Int) (hx:wfI x):Calls Tryz.prog 300 #[.pointer (some ⟨hb,0,none⟩),.int .i64 x] w (vU w L hb (.int .i64 (M.release x).1) (M.release x).2):=by
 cases y:M.ob x with
 | none=>
  have d:M.release x=(3,M):=by unfold Hp.release;rw [y]
  rw [d];refine (aCl w h x hx y).mono ?_;rintro e _ ⟨rfl,rfl⟩;exact vU.none h (jJ.refl _)
 | some o=>exact aCk w h z x hx y
end
theorem aEL {P:Pl} {l:List Int} {k m:Nat} (h:dD P l k=none) (z:k<=m):dD P l m=none:=by
 induction m with
 | zero=>(obtain rfl:k=0:=(by omega));exact h
 | succ m y=>
  by_cases e:k=m+1
  ·rw [<-e];exact h
  unfold dD;rw [y (by omega)]
theorem iV {P Q:Pl} {l bs:List Int} {k:Nat} (h:dD P l k=some (bs,Q)):dD P l (k+1)=if (Q.alloc (gI l k)).2.1=0 then some (bs ++ [(Q.alloc (gI l k)).1],(Q.alloc (gI l k)).2.2) else none:=by
 unfold dD;rw [h]
theorem aOr (w:World) (n:Nat) (hn:n<=1000):Calls Tryz.prog 218 #[.int .i64 n] w (aO w (.int .i64 (lZ n))):=by
 refine aF fun R y=>?_
 by_cases z:n<=2
 ·have e:lZ n=0:=by unfold lZ;rw [if_pos z]
  rw [e] at y;have d:(n:Int)<=2:=by omega
  clear e;go_in;go_wp2;exact y.out _ _ ⟨rfl,rfl⟩
 have d:¬ (n:Int)<=2:=by omega
 by_cases h4:n<=4
 ·have e:lZ n=1:=by unfold lZ;rw [if_neg z,if_pos h4]
  rw [e] at y;have h0:(n:Int)<=4:=by omega
  clear e;go_in;go_wp2;exact y.out _ _ ⟨rfl,rfl⟩
 have e:lZ n=2:=by unfold lZ;rw [if_neg z,if_neg h4]
 rw [e] at y;have h0:¬ (n:Int)<=4:=by omega
 clear e;go_in;go_wp2;exact y.out _ _ ⟨rfl,rfl⟩
section
variable {w w':World} {L:Nat->Option Lb} {hb:Nat} {M:Hp} {X:HX}
theorem dJ.aQa (h:dJ w L hb M X) {hN:Int} {o:Th} {p' b' xb:Nat} {P':Pl} {rv bv:Value} (hg:aI (fun k=>L k=some .mem\/L k=some .map) w w')
  (hm:∃ T,Row w' hb T [.pointer (some ⟨p',0,none⟩),.map (some X.mb)]) (hp:dP w' p' b' P') (x1:dL w' X.mb 192 (fun k=>if k=hN then some xb else (M.ob k).map fun _=>X.blk k))
  (h8:∃ T,Row w' xb T (zX o rv bv)) (h7:Bls w' w.heap.size rv o.dY) (h5:aN w' w.heap.size bv o.blocks)
  (h1:w.heap.size<=p'/\p'<w'.heap.size) (h2:w.heap.size<=b'/\b'<w'.heap.size) (h3:w.heap.size<=xb/\xb<w'.heap.size)
  (d1:xb≠p') (d2:xb≠b') (d3:∀ g,rv.ownBlock=some g->g≠p'/\g≠b'/\g≠xb) (d4:∀ g,bv.ownBlock=some g->g≠p'/\g≠b'/\g≠xb/\rv.ownBlock≠some g) :
  ∃ L' X',dJ w' L' hb ⟨P',eU M.ob hN (some o)⟩ X'/\∀ k,L' k≠none->L k≠none\/w.heap.size<=k:=by
 obtain ⟨L',z⟩:∃ L':Nat->Option Lb,L'=fun k=>if k=p' then some .pool else if k=b' then some .pages else if k=xb then some (.th hN) else if rv.ownBlock=some k then some (.rb hN) else if bv.ownBlock=some k then some (.bl hN) else L k:=⟨_,rfl⟩;have h0:∀ k,L k≠none->L' k=L k:=fun k y=>by
  have:=h.lt k y;rw [z];simp only;rw [if_neg (by omega),if_neg (by omega),if_neg (by omega),if_neg (fun e=>by have:=(h7.own k e).1;omega),if_neg (fun e=>by have:=(h5.own k e).1;omega)]
 have h4:∀ k,L' k≠none->L k≠none\/(w.heap.size<=k/\k<w'.heap.size):=fun k y=>by
  rw [z] at y;simp only at y
  by_cases e1:k=p'
  ·rw [e1];exact .inr h1
  rw [if_neg e1] at y
  by_cases e2:k=b'
  ·rw [e2];exact .inr h2
  rw [if_neg e2] at y
  by_cases e3:k=xb
  ·rw [e3];exact .inr h3
  rw [if_neg e3] at y
  by_cases e4:rv.ownBlock=some k
  ·exact .inr (h7.own k e4)
  rw [if_neg e4] at y
  by_cases e5:bv.ownBlock=some k
  ·exact .inr (h5.own k e5)
  rw [if_neg e5] at y;exact .inl y
 have h6:∀ k ℓ,ℓ≠Lb.mem->ℓ≠.map->(L k=some .mem\/L k=some .map)->L k≠some ℓ:=fun k ℓ e1 e2 y e=>by
  rcases y with y|y
  ·rw [y] at e;cases e;exact e1 rfl
  rw [y] at e;cases e;exact e2 rfl
 have x2:=hp.ne;refine ⟨L',⟨p',b',X.mb,fun k=>if k=hN then xb else X.blk k,fun k=>if k=hN then rv else X.rv k,fun k=>if k=hN then bv else X.bv k⟩,⟨fun k y=>?_,hm,qY h0 h.Lm,hp,by rw [z];simp,by rw [z];simp [Ne.symm x2],?_,qY h0 h.Lp,fun k u y=>?_⟩,fun k y=>(h4 k y).imp id (fun e=>e.1)⟩
 ·rcases h4 k y with e|e
  ·exact Nat.lt_of_lt_of_le (h.lt k e) hg.size
  exact e.2
 ·refine x1.congr (fun k=>?_);show _=(eU M.ob hN (some o) k).map fun _=>if k=hN then xb else X.blk k
  by_cases e:k=hN
  ·rw [e,aY,if_pos rfl,if_pos rfl];rfl
  rw [bF _ _ e,if_neg e,if_neg e]
 show aDH w' L' k (if k=hN then xb else X.blk k) (if k=hN then rv else X.rv k) (if k=hN then bv else X.bv k) u;rcases aV y with ⟨rfl,rfl⟩|⟨e,h9⟩
 ·rw [if_pos rfl,if_pos rfl,if_pos rfl];refine ⟨h8,?_,h7.base (Nat.zero_le _),fun g d=>?_,h5.base (Nat.zero_le _),fun g d=>?_⟩
  ·rw [z];simp [d1,d2]
  ·obtain ⟨a1,a2,a3⟩:=d3 g d;rw [z];simp [a1,a2,a3,d]
  obtain ⟨a1,a2,a3,a4⟩:=d4 g d;rw [z];simp [a1,a2,a3,a4,d]
 rw [if_neg e,if_neg e,if_neg e];exact ((h.th k u h9).only hg (fun x hx=>⟨h6 x _ (by simp) (by simp) hx,h6 x _ (by simp) (by simp) hx,h6 x _ (by simp) (by simp) hx⟩)).lab h0
end
set_option maxHeartbeats 6400000
theorem aN.one (w:World) (c:Int):aN (w.alloc (.cells #[.int .i64 c] 3)) w.heap.size (.slice (some ⟨w.heap.size,0,none⟩) 1 1) [c]:=
 ⟨by simp,.inr ⟨w.heap.size,1,#[.int .i64 c],rfl,Nat.le_refl _,Row.new w 3 [.int .i64 c],Nat.le_refl _,by decide,rfl,rfl⟩⟩
theorem xU {n:Nat} (h:¬ 7<n):aS n=[lZ (1+n)]:=by unfold aS;rw [if_neg h]
theorem aAs {n j:Nat} (h:7<n) (d:¬ j*8<n) (z:(j - 1)*8<n) (y:0<j):lZ (1+n) :: List.replicate j 2=aS n:=by
 unfold aS;rw [if_pos h];have:j=(n+7) / 8:=by omega
 rw [this]
theorem aFI (c:Int) (j:Nat):c :: (List.replicate j (2:Int) ++ [2])=c :: List.replicate (j+1) 2:=by
 rw [<-List.replicate_succ']
section
variable {w0:World} {L:Nat->Option Lb} {hb:Nat} {M:Hp} {X:HX}
theorem aAx {k:Nat} (z:k<192) (h:∀ j,j<k->M.ob ((j:Int)+1)≠none) (y:M.ob ((k:Int)+1)=none):M.least=k:=
 kT (f:=fun k=>(M.ob ((k:Int)+1)).isNone) z (by simp [y]) (fun j hj=>by
  cases e:M.ob ((j:Int)+1) with
  | none=>exact absurd e (h j hj)
  | some o=>simp)
theorem aAy (h:∀ j:Nat,j<192->M.ob ((j:Int)+1)≠none):¬ M.least<192:=by
 have:=fQ (f:=fun k=>(M.ob ((k:Int)+1)).isNone) (m:=192) (fun j hj=>by
  cases e:M.ob ((j:Int)+1) with
  | none=>exact absurd e (h j hj)
  | some o=>simp)
 unfold Hp.least;omega
theorem aFP {o:Th} (h:¬ M.least<192):M.add o=(0,14,M):=by unfold Hp.add;rw [if_neg h]
theorem aBK {o:Th} {k:Nat} (y:k<=(aS o.slots.length).length) (h:dD M.P (aS o.slots.length) k=none):M.add o=(0,14,M):=by
 unfold Hp.add;split
 ·rw [aEL h y]
 rfl
theorem aFO {o:Th} {bs:List Int} {Q:Pl} (y:M.least<192) (h:dD M.P (aS o.slots.length) (aS o.slots.length).length=some (bs,Q)) :
  M.add o=((M.least:Int)+1,0,⟨fO Q ((M.least:Int)+1) bs,eU M.ob ((M.least:Int)+1) (some { o with blocks:=bs })⟩):=by
 unfold Hp.add;rw [if_pos y,h]
theorem aBL {w9:World} (h:dJ w0 L hb M X) (hk:M.Ok) {o:Th} {kd cl:Int} {n:Nat} {rv bv:Value} {p' b' xb T:Nat} {Q:Pl} {bs:List Int} (hl:M.least<192)
  (hs:dD M.P (aS o.slots.length) (aS o.slots.length).length=some (bs,Q)) (hp:dP w9 p' b' (fO Q ((M.least:Int)+1) bs)) (ho:Only [] w0 w9)
  (h1:Row w9 xb T [.int .i64 kd,.int .i64 cl,.int .i64 n,rv,bv]) (e1:kd=o.kind) (e2:cl=o.cls) (e3:n=o.slots.length)
  (h3:Bls w9 w0.heap.size rv o.dY) {base:Nat} (h0:aN w9 base bv bs) (hx:w0.heap.size<=xb) (h4:∀ g,rv.ownBlock=some g->g<xb) (y1:xb<p') (x7:xb<b') (y2:p'<base) (x8:b'<base) :
  ∃ y,(Instr.mapUpdate 173 (.map (some X.mb)) (.int .i64 ((M.least:Int)+1)) (.pointer (some ⟨xb,0,none⟩))).run Tryz.prog (w9.setCell ⟨hb,0,none⟩ (.pointer (some ⟨p',0,none⟩)))=.ok () y/\
   vU w0 L hb (.tuple #[.int .i64 (M.add o).1,.int .i64 (M.add o).2.1]) (M.add o).2.2 (.returned (.tuple #[.int .i64 ((M.least:Int)+1),.int .i64 0])) y:=by
 have h2:hb≠X.mb:=by rintro e;have:=h.Lm;rw [e,h.Lp] at this;cases this
 have hO:aI (·=hb) w0 (w9.setCell ⟨hb,0,none⟩ (.pointer (some ⟨p',0,none⟩))):=(ho.vM (S:=(·=hb))).set (.inl rfl) _;have h7:=h.mp.only hO (fun e=>h2 e.symm);have x5:wfI ((M.least:Int)+1):=dN (by omega);obtain ⟨y,h5,h8,d⟩:=h7.store (by omega) x5 xb;have O9:aI (fun k=>k=hb\/k=X.mb) w9 y:=((aI.refl (fun k=>k=hb\/k=X.mb) w9).set (p:=⟨hb,0,none⟩) (.inl (.inl rfl)) (.pointer (some ⟨p',0,none⟩))).grown d (fun k hk=>by cases hk;exact .inl (.inr rfl));have y0:=h.mp.lt;have x9:hb<w0.heap.size:=h.lt hb (by rw [h.Lm];simp);have y3:=ho.size;have x6:=O9.size;obtain ⟨_,_,_,_,f1,f2⟩:=hp.facts;have y4:=h1.lt;have z:∀ k,w0.heap.size<=k->¬ (k=hb\/k=X.mb):=fun k hk e=>by rcases e with e|e<;>omega
 have x3:=(h.aK ho).mem;obtain ⟨Tm,x4⟩:=x3;have x1:=x4.set 0 (.pointer (some ⟨p',0,none⟩));have h9:Row y hb Tm [.pointer (some ⟨p',0,none⟩),.map (some X.mb)]:=x1.grown d (by intro e;cases e;exact h2 rfl);have O0:aI (fun k=>L k=some .mem\/L k=some .map) w0 y:=(ho.vM (S:=fun k=>L k=some .mem\/L k=some .map)).trans O9 (fun x hx=>by
  rcases hx with rfl|rfl
  ·exact .inl (.inl h.Lm)
  exact .inl (.inr h.Lp))
 have h6:Row y xb T (zX { o with blocks:=bs } rv bv):=by
  have:=O9.row h1 (z xb hx);unfold zX;rw [<-e1,<-e2,<-e3];exact this
 have x2:dL y X.mb 192 (fun k=>if k=(M.least:Int)+1 then some xb else (M.ob k).map fun _=>X.blk k):=h8.bound (fun k hs=>by
  by_cases e:k=(M.least:Int)+1
  ·omega
  simp only [e,if_false] at hs
  cases eo:M.ob k with
  | none=>rw [eo] at hs;cases hs
  | some u=>exact hk.hr k u eo)
 obtain ⟨L',X',q1,q2⟩:=h.aQa (w':=y) (hN:=(M.least:Int)+1) (o:={ o with blocks:=bs }) (p':=p') (b':=b') (xb:=xb) (P':=fO Q ((M.least:Int)+1) bs) (rv:=rv) (bv:=bv) O0 ⟨Tm,h9⟩
  (hp.bY O9 (z p' (by omega)) (z b' (by omega))) x2 ⟨T,h6⟩ (h3.bY O9 (fun g d=>z g (h3.own g d).1)) ((h0.base (b:=w0.heap.size) (by omega)).bY O9 (fun g d=>z g (by have:=(h0.own g d).1;omega)))
  ⟨by omega,by omega⟩ ⟨by omega,by omega⟩ ⟨hx,by omega⟩ (by omega) (by omega) (fun g d=>by have:=h4 g d;omega)
  (fun g d=>⟨by have:=(h0.own g d).1;omega,by have:=(h0.own g d).1;omega,by have:=(h0.own g d).1;omega,fun e=>by have:=(h0.own g d).1;have:=h4 g e;omega⟩)
 refine ⟨y,h5,?_⟩;rw [aFO hl hs];refine ⟨rfl,L',X',q1,q2,O0.mono (fun x hx=>.inl (by rcases hx with e|e<;>rw [e]<;>simp))⟩
theorem aKD (w:World) (h:dJ w0 L hb M X) (hk:M.Ok) (hw:Only [] w0 w) (o:Th) (ho:o.ok1) (rv:Value) (k9:Bls w w0.heap.size rv o.dY) :
  Calls Tryz.prog 164 #[.pointer (some ⟨hb,0,none⟩),.agg #[.int .i64 o.kind,.int .i64 o.cls,.int .i64 o.slots.length,rv,.slice none 0 0]] w
   (vU w0 L hb (.tuple #[.int .i64 (M.add o).1,.int .i64 (M.add o).2.1]) (M.add o).2.2):=by
 refine aF fun R hR=>?_;obtain ⟨ra,rc,k8⟩:=k9.len;have j1:=ho.le;obtain ⟨rn,i0⟩:∃ b,b=o.dY.length:=⟨_,rfl⟩;obtain ⟨n,hn⟩:∃ b,b=o.slots.length:=⟨_,rfl⟩;obtain ⟨kd,k7⟩:∃ b,b=o.kind:=⟨_,rfl⟩;obtain ⟨cl,k3⟩:∃ b,b=o.cls:=⟨_,rfl⟩;have g7:=aA k9;rw [k8,<-i0] at g7;rw [k8,<-i0,<-hn,<-k7,<-k3];have H:=aA h;have OK:=aA hk;have HW:=aA hw;have HN:=aA hn;have g5:=aA k7;have g2:=aA k3;have n3:=aA i0;rw [<-hn] at j1;have a6:Hid (Only [] w0 (w.alloc (.cells #[.int .i64 kd,.int .i64 cl,.int .i64 n,.slice ra rn rc,.slice none 0 0] 184))):=hw.alloc _;have qB:Hid (Row (w.alloc (.cells #[.int .i64 kd,.int .i64 cl,.int .i64 n,.slice ra rn rc,.slice none 0 0] 184)) w.heap.size 184 [.int .i64 kd,.int .i64 cl,.int .i64 n,.slice ra rn rc,.slice none 0 0]):=Row.new w _ [_,_,_,_,_];have g8:Hid (Bls (w.alloc (.cells #[.int .i64 kd,.int .i64 cl,.int .i64 n,.slice ra rn rc,.slice none 0 0] 184)) w0.heap.size (.slice ra rn rc) o.dY):=g7.out.alloc _;have z6:Hid (∀ g,(Value.slice ra rn rc).ownBlock=some g->g<w.heap.size):=fun g hg=>(g7.out.own g hg).2;have HX:Hid (w0.heap.size<=w.heap.size):=hw.size;have g1:w.heap.size<(w.alloc (.cells #[.int .i64 kd,.int .i64 cl,.int .i64 n,.slice ra rn rc,.slice none 0 0] 184)).heap.size:=by simp
 clear h hk hw k9 ho k8;clear hn k7 k3 i0;go_in;go_wp2_with fail;generalize (w.alloc (.cells #[.int .i64 kd,.int .i64 cl,.int .i64 n,.slice ra rn rc,.slice none 0 0] 184))=w1 at*;obtain ⟨xb,m3⟩:∃ b,b=w.heap.size:=⟨_,rfl⟩;rw [<-m3] at qB z6 HX g1 ⊢;clear m3 g7 HW;have g3:=aA (H.out.aK a6.out);have c1:=g3.out.cells.2.1;go_loopw [6] (fun iv wr=>∃ k:Nat,k<=192/\iv=.int .i64 ((k:Int)+1)/\w1=wr/\Hid (∀ j:Nat,j<k->M.ob ((j:Int)+1)≠none)) (fun iv _=>193 - (intOf iv).toNat)
 case atStart=>exact ⟨0,by omega,rfl,rfl,fun j hj=>by omega⟩
 case round=>
  obtain ⟨k,hk,rfl,rfl,HF⟩:=hrel
  cases b5:M.ob ((k:Int)+1) with
  | some o'=>
   have hl:=g3.out.yJ (dN (by omega)) b5;have m0:k<192:=by have:=(OK.out.hr _ _ b5).2;omega
   have y4:=aA b5;clear b5;go_wp2_with fail;refine ⟨⟨k+1,by omega,by go_num,by trivial,fun j hj=>?_⟩,by simp [intOf];omega⟩
   by_cases e:j=k
   ·rw [e,y4.out];simp
   exact HF.out j (by omega)
  | none=>
   have hl:=g3.out.yK (dN (by omega)) b5;have y4:=aA b5;clear b5
   by_cases l6:k=192
   ·have n4:(192:Int)<(k:Int)+1:=by omega
    have d4:Hid (M.add o=(0,14,M)):=aFP (aAy (fun j hj=>HF.out j (by omega)));clear l6;go_wp2_with fail;refine hR.out _ _ ?_;rw [d4.out];exact vU.none0 H.out a6.out
   have n1:¬ (192:Int)<(k:Int)+1:=by omega
   have l8:Hid (True->M.least=k):=fun _=>aAx (by omega) HF.out y4.out;obtain ⟨hN,k5⟩:∃ z:Int,z=(k:Int)+1:=⟨_,rfl⟩;rw [<-k5] at hl n1 ⊢;have a4:Hid (True->hN=(M.least:Int)+1):=fun _=>by rw [l8.out trivial];exact k5
   have g6:Hid (True->M.least<192):=fun _=>by rw [l8.out trivial];omega
   have b2:w1.cell? ⟨xb,2,none⟩=_:=qB.out.cell 2 rfl;have i2:Calls Tryz.prog 218 #[.int .i64 (1+(n:Int))] w1 (aO w1 (.int .i64 (lZ (1+n)))):=by
    have:=aOr w1 (1+n) (by omega);rwa [show ((1+n:Nat):Int)=1+(n:Int) by omega] at this
   clear k5 HF y4;go_wp2_with fail;refine i2.mono ?_;rintro e _ ⟨rfl,rfl⟩;clear i2;have y5:Hid (aN (w1.alloc (.cells #[.int .i64 (lZ (1+n))] 3)) w1.heap.size (.slice (some ⟨w1.heap.size,0,none⟩) 1 1) [lZ (1+n)]):=aN.one w1 _;have x6:Hid (Only [] w1 (w1.alloc (.cells #[.int .i64 (lZ (1+n))] 3))):=(Only.refl [] w1).alloc _;have d2:(w1.alloc (.cells #[.int .i64 (lZ (1+n))] 3)).cell? ⟨xb,2,none⟩=_:=x6.out.cell b2 (by simp);clear b2 c1 hl;have d0:(w1.alloc (.cells #[.int .i64 (lZ (1+n))] 3)).cell? ⟨hb,0,none⟩=_:=x6.out.cell g3.out.cells.1 (by simp);have f9:w1.heap.size<(w1.alloc (.cells #[.int .i64 (lZ (1+n))] 3)).heap.size:=by simp
   by_cases h7:7<n
   ·have j8:(7:Int)<n:=by omega
    have H7:=aA h7;go_wp2_with fail;generalize (w1.alloc (.cells #[.int .i64 (lZ (1+n))] 3))=w2 at*;obtain ⟨sg,f7⟩:∃ z,z=w1.heap.size:=⟨_,rfl⟩;rw [<-f7] at y5 f9 ⊢;have a7:Hid (xb<sg):=by show xb<sg;omega
    have l9:Hid (sg=w1.heap.size):=f7;clear d0 d2 h7 j8 g1 f9 f7;go_loopw [7,8] (fun v iv wr=>∃ j:Nat,iv=.int .i64 (j*8:Nat)/\j<=6/\(j=0\/(j - 1)*8<n)/\aN wr sg v (lZ (1+n) :: List.replicate j 2)/\Only [] w1 wr) (fun _ iv _=>49 - (intOf iv).toNat)
    case atStart=>exact ⟨0,rfl,by omega,.inl rfl,y5.out,x6.out⟩
    case round=>
     clear y5 x6 w2;obtain ⟨j,rfl,m8,hj,i1,ho⟩:=hrel;obtain ⟨va,vc,hv⟩:=i1.len;rw [show (lZ (1+n) :: List.replicate j (2:Int)).length=j+1 by simp] at hv;subst hv;have b2:=ho.cell (qB.out.cell 2 rfl) (by simp);have y5:=aA i1;have x6:=aA ho;obtain ⟨ji,g9⟩:∃ z:Int,z=((j*8:Nat):Int):=⟨_,rfl⟩;rw [<-g9];have l7:=aA g9
     by_cases f3:j*8<n
     ·have a5:ji<(n:Int):=by omega
      have b9:0<=ji:=by omega
      obtain ⟨jn,k6⟩:∃ z,z=j+1:=⟨_,rfl⟩;rw [<-k6] at y5 ⊢;have n2:=aA k6;clear g9 i1 ho k6;go_wp2_with (at_builtin;refine bD rfl _ _ rfl sg _ _ rfl (y5.out.alloc _) wr.heap.size 2 rfl ?c1 ?c2 ?c3 ?c4)
      case c1=>exact (Row.new wr _ [_]).cell 0 rfl
      case c2=>simp;omega
      case c3=>have:=x6.out.size;have:=l9.out;simp;omega
      case c4=>
       intro v' w5 m2 m1 d8;have m4:=aA m2;have h8:Hid (Only [] w1 w5):=(x6.out.alloc _).trans m1 (fun x hx=>.inr (by have:=(y5.out.own x (by simpa using hx)).1;have:=l9.out;omega));clear m2 m1 d8 y5 x6;go_wp2_with fail;refine ⟨⟨j+1,?_,?_,?_,?_,h8.out⟩,?_⟩
       ·have:=l7.out;go_num
       ·omega
       ·right;show j*8<n;omega
       ·have:=m4.out;rw [aFI] at this;exact this
       have:=l7.out;simp [intOf];omega
     have a5:¬ ji<(n:Int):=by omega
     have c0:Hid (lZ (1+n) :: List.replicate j (2:Int)=aS n):=aAs H7.out f3 (by have:=H7.out;omega) (by have:=H7.out;omega);have z7:=aA (show aN wr sg (.slice va (j+1) vc) (aS n) by rw [<-c0.out];exact y5.out);have y4:Hid (Only [] w0 wr):=a6.out.trans x6.out (by simp);have c8:Hid (Row wr xb 184 [.int .i64 kd,.int .i64 cl,.int .i64 n,.slice ra rn rc,.slice none 0 0]):=x6.out.row qB.out (by simp);have d5:Hid (Bls wr w0.heap.size (.slice ra rn rc) o.dY):=g8.out.only x6.out (by simp);have d0:=(H.out.aK y4.out).cells.1;have d3:=aA (wM wr X.pp X.pb M.P (H.out.aK y4.out).pool);generalize Value.slice va (j+1) vc=v7 at*;clear y5 c0 g8 qB i1 ho g9 hj m8;go_wp2_with fail;generalize f9:wr=w2 at*;clear f9 d0 b2;obtain ⟨g,sc,l4,j5,k4,l3⟩:∃ g sc,v7=.slice (some ⟨g,0,none⟩) (aS n).length sc/\sg<=g/\g<w2.heap.size/\(aS n).length<=sc:=by
      rcases z7.out.form with ⟨_,e⟩|⟨g,sc,e1,e2,e3,e4,_⟩
      ·have:=jT n;rw [e] at this;simp at this
      exact ⟨g,sc,e1,e2,e3,e4⟩
     subst l4;have l0:=jT n;have l1:=wG n j1;obtain ⟨sn,b6⟩:∃ z,z=(aS n).length:=⟨_,rfl⟩;rw [<-b6] at l0 l1 z7 l3 ⊢;have y0:=aA b6;clear b6;refine d3.out.mono ?_;rintro e w3 ⟨p',b',rfl,z9,z1,j6,j3⟩;have y3:Hid (Only [] w0 w3):=y4.out.trans z1 (by simp);have d1:Hid (Row w3 xb 184 [.int .i64 kd,.int .i64 cl,.int .i64 n,.slice ra rn rc,.slice none 0 0]):=z1.row c8.out (by simp);have d6:Hid (Bls w3 w0.heap.size (.slice ra rn rc) o.dY):=d5.out.only z1 (by simp);have j4:Hid (aN w3 sg (.slice (some ⟨g,0,none⟩) sn sc) (aS n)):=z7.out.only z1 (by simp);obtain ⟨_,_,_,_,e8,e9⟩:=z9.facts;have HB:Hid (xb<p'/\xb<b'/\g<b'/\xb<g/\p'<w3.heap.size/\b'<w3.heap.size/\p'≠b'/\w0.heap.size<=xb):=⟨by have:=a7.out;omega,by have:=a7.out;omega,by omega,by have:=a7.out;omega,e8,e9,z9.ne,HX.out⟩;have c7:=aA z9;clear d3 x6 a6 y4 c8 d5 z7 z1 j6 j3 e8 e9 z9 j5 k4;obtain ⟨b3,d9⟩:∃ z,z=w3.heap.size:=⟨_,rfl⟩;have h6:=aA d9;clear d9;go_wp2;go_loopw [51] (fun iv wr=>∃ (k:Nat) (bs:List Int) (Q:Pl) (bv:Value),k<=sn/\iv=.int .i64 k/\Hid (True->dD M.P (aS n) k=some (bs,Q))/\dP wr p' b' Q/\aN wr b3 bv bs/\Row wr xb 184 [.int .i64 kd,.int .i64 cl,.int .i64 n,.slice ra rn rc,bv]/\Only [xb,b'] w3 wr) (fun iv _=>sn - (intOf iv).toNat)
     case atStart=>exact ⟨0,[],M.P,.slice none 0 0,by omega,rfl,fun _=>rfl,c7.out,aN.nil _ _,d1.out,Only.refl _ _⟩
     case round=>
      clear c7 d1;obtain ⟨k,bs,Q,bv,hk,rfl,x8,hp,b4,z3,ho⟩:=hrel;have b1:bs.length=k:=(dW OK.out.p (l:=aS n) (fun m hm=>dO _ hm) k (by have:=y0.out;omega) bs Q (x8.out trivial)).len;obtain ⟨ba,bc,e5⟩:=b4.len;rw [b1] at e5;subst e5;have x4:=aA b1;have HP:=aA hp;have x5:=aA b4;have nO:=aA z3;have HO:=aA ho;have c4:wr.cell? ⟨xb,4,none⟩=_:=z3.cell 4 rfl;clear hp b4 z3 ho b1
      by_cases f3:k<sn
      ·have a5:(k:Int)<sn:=by omega
       have n0:(0:Int)<=k:=by omega
       have e7:wr.cell? ⟨g,k,none⟩=some (.int .i64 (gI (aS n) k)):=by
        rcases (j4.out.only HO.out (fun g' h0=>by cases h0;have:=HB.out;simp;omega)).form with ⟨e,_⟩|⟨g',c',e1,_,_,_,h5⟩
        ·cases e
        cases e1;exact h5 k (by have:=y0.out;omega)
       have z8:=aDw wr p' b' Q HP.out (gI (aS n) k);obtain ⟨c,hc⟩:∃ z,z=gI (aS n) k:=⟨_,rfl⟩;rw [<-hc] at e7 z8;obtain ⟨r,hr⟩:∃ z,z=Q.alloc c:=⟨_,rfl⟩;rw [<-hr] at z8;have HR:=aA hr;have HC:=aA hc;obtain ⟨a1,e1,Q1⟩:=r;clear hr hc c4;go_wp2_with fail;refine z8.mono ?_;rintro e w5 ⟨rfl,z2,x3⟩;have x9:Hid (dP w5 p' b' Q1):=z2;have h8:Hid (Only [xb,b'] w3 w5):=HO.out.trans x3 (fun x hx=>.inl (by simp at hx;simp [hx]));have kF:Hid (Row w5 xb 184 [.int .i64 kd,.int .i64 cl,.int .i64 n,.slice ra rn rc,.slice ba k bc]):=x3.row nO.out (by have:=HB.out;simp;omega);have uV:Hid (aN w5 b3 (.slice ba k bc) bs):=x5.out.only x3 (fun g' h0=>by have:=(x5.out.own g' h0).1;have:=HB.out;have:=h6.out;simp;omega);have c4:w5.cell? ⟨xb,4,none⟩=_:=kF.out.cell 4 rfl;clear z8 z2 x3 e7 nO x5 HO HP
       by_cases he:e1=0
       ·subst he;go_wp2_with (at_builtin;refine bD rfl _ _ rfl b3 _ _ rfl (uV.out.alloc _) w5.heap.size a1 rfl ?c1 ?c2 ?c3 ?c4)
        case c1=>exact (Row.new w5 _ [_]).cell 0 rfl
        case c2=>have:=x4.out;omega
        case c3=>have:=h8.out.size;have:=h6.out;simp;omega
        case c4=>
         intro v' w6 a3 y1 k1;obtain ⟨h9,x1,f8⟩:=a3.len;obtain ⟨nb,f4⟩:∃ z,z=(bs ++ [a1]).length:=⟨_,rfl⟩;rw [<-f4] at f8;subst f8;clear f4 k1;have x7:∀ x∈(Value.slice ba k bc).ownBlock.toList,b3<=x:=fun x hx=>(uV.out.own x (by simpa using hx)).1;have b8:∀ x∈(Value.slice ba k bc).ownBlock.toList,x<w5.heap.size:=fun x hx=>(uV.out.own x (by simpa using hx)).2;have hB:=HB.out;have j9:=h6.out;have a2:=y1.row (kF.out.alloc (.cells #[.int .i64 a1] 3)) (fun hx=>by have:=x7 _ hx;omega);have f6:=a2.free 4;have c6:w6.cell? ⟨xb,4,none⟩=_:=a2.cell 4 rfl;have i7:Hid (dP (w6.setCell ⟨xb,4,none⟩ (.slice h9 nb x1)) p' b' Q1):=
          (((x9.out.only ((Only.refl [] w5).alloc (.cells #[.int .i64 a1] 3)) (by simp) (by simp)).only y1 (fun hx=>by have:=x7 _ hx;omega) (fun hx=>by have:=x7 _ hx;omega)).only ((Only.refl [xb] w6).set (p:=⟨xb,4,none⟩) (.inl (by simp)) (.slice h9 nb x1)) (by simp;omega) (by simp;omega))
         have i9:Hid (aN (w6.setCell ⟨xb,4,none⟩ (.slice h9 nb x1)) b3 (.slice h9 nb x1) (bs ++ [a1])):=a3.only ((Only.refl [xb] w6).set (p:=⟨xb,4,none⟩) (.inl (by simp)) (.slice h9 nb x1)) (fun g' h0=>by have:=(a3.own g' h0).1;simp;omega);have j0:Hid (Row (w6.setCell ⟨xb,4,none⟩ (.slice h9 nb x1)) xb 184 [.int .i64 kd,.int .i64 cl,.int .i64 n,.slice ra rn rc,(.slice h9 nb x1)]):=a2.set 4 (.slice h9 nb x1);have i5:Hid (Only [xb,b'] w3 (w6.setCell ⟨xb,4,none⟩ (.slice h9 nb x1))):=((h8.out.alloc _).trans y1 (fun x hx=>.inr (by have:=x7 _ hx;omega))).set (.inl (by simp)) _;have j2:Hid (True->dD M.P (aS n) (k+1)=some (bs ++ [a1],Q1)):=fun _=>by
          rw [iV (x8.out trivial),<-HC.out,<-HR.out];rfl
         clear a3 y1 x7 b8 hB j9 a2 x9 h8 kF uV c4 x8;go_wp2;exact ⟨⟨k+1,bs ++ [a1],Q1,(.slice h9 nb x1),by omega,by go_num,j2,i7.out,i9.out,j0.out,i5.out⟩,by simp [intOf];omega⟩
       have d4:Hid (True->M.add o=(0,14,M)):=fun _=>aBK (k:=k+1) (by rw [<-HN.out,<-y0.out];omega) (by
        rw [<-HN.out,iV (x8.out trivial),<-HC.out,<-HR.out];show (if e1=0 then _ else _)=_;rw [if_neg he])
       go_wp2_with fail;refine hR.out _ _ ?_;rw [d4.out trivial];exact vU.none0 H.out (y3.out.trans h8.out (fun x hx=>.inr (by have:=HB.out;have:=y3.out.size;simp at hx;rcases hx with rfl|rfl<;>omega)))
      obtain rfl:k=sn:=by omega
      obtain ⟨g4,k2,e6,m7⟩:∃ g4,ba=some ⟨g4,0,none⟩/\b3<=g4/\k<=bc:=by
       rcases x5.out.form with ⟨e,e2⟩|⟨g4,c',e1,e2,_,e4,_⟩
       ·rw [e2] at x4;have:=x4.out;simp at this;omega
       cases e1;rw [x4.out] at e4;exact ⟨g4,rfl,e2,e4⟩
      subst k2;have i3:=aA e6;have z4:Hid (∀ i,i<k->∀ wx F,Only F wr wx->g4∉F->wx.cell? ⟨g4,i,none⟩=some (.int .i64 (gI bs i))):=fun i hi wx F hox hgf=>by
       rcases x5.out.form with ⟨e,_⟩|⟨g',c',e1,_,_,_,h5⟩
       ·cases e
       cases e1;exact hox.cell (h5 i (by rw [x4.out];exact hi)) hgf
      have b0:=z4.out 0 (by omega) wr [] (Only.refl _ _) (by simp);have d:=iM wr p' b' Q HP.out (gI bs 0) hN;obtain ⟨a0,a9⟩:∃ z,z=gI bs 0:=⟨_,rfl⟩;rw [<-a9] at b0 d;have z5:=aA a9;obtain ⟨r,hr⟩:∃ z,z=Q.setCell a0 hN:=⟨_,rfl⟩;rw [<-hr] at d;have HR:=aA hr;obtain ⟨e1,Q1⟩:=r;clear hr a9 e6;go_wp2_with fail;refine d.mono ?_;rintro e w5 ⟨rfl,z2,x3⟩;have x9:Hid (dP w5 p' b' Q1):=z2;have h8:Hid (Only [xb,b'] w3 w5):=HO.out.trans x3 (fun x hx=>.inl (by simp at hx;simp [hx]));have kF:Hid (Row w5 xb 184 [.int .i64 kd,.int .i64 cl,.int .i64 n,.slice ra rn rc,.slice (some ⟨g4,0,none⟩) k bc]):=x3.row nO.out (by have:=HB.out;simp;omega);have uV:Hid (aN w5 b3 (.slice (some ⟨g4,0,none⟩) k bc) bs):=x5.out.only x3 (fun g' h0=>by have:=(x5.out.own g' h0).1;have:=HB.out;have:=h6.out;simp;omega);have d7:w5.cell? ⟨xb,4,none⟩=_:=kF.out.cell 4 rfl;have m5:0<=a0/\a0<=384:=by
       have s:=dW OK.out.p (l:=aS n) (fun m hm=>dO _ hm) k (by have:=y0.out;omega) bs Q (x8.out trivial);have h1:=(s.new 0 (by omega)).range (dO _ (by have:=y0.out;omega));have h2:=s.n;have h3:=OK.out.n24;rw [<-z5.out] at h1;omega
      have rG:Hid (∀ i,i<k->∀ wx,Only [b'] w5 wx->wx.cell? ⟨g4,i,none⟩=some (.int .i64 (gI bs i))):=fun i hi wx hox=>by
       rcases uV.out.form with ⟨e,_⟩|⟨g',c',e1,_,_,_,h5⟩
       ·cases e
       cases e1;exact hox.cell (h5 i (by rw [x4.out];exact hi)) (by have:=i3.out;have:=HB.out;have:=h6.out;simp;omega)
      clear d z2 x3 nO x5 HO HP c4 b0 z4
      by_cases d8:bc=1
      ·subst d8;obtain rfl:k=1:=by omega
       go_wp2;go_loopw [81] (fun iv wr=>iv=.int .i64 0/\w5=wr) (fun _ _=>0)
       case atStart=>exact ⟨rfl,rfl⟩
       case round=>
        obtain ⟨rfl,rfl⟩:=hrel;have y6:Hid (Only [xb,b'] w3 w5):=h8;have y7:Hid (dP w5 p' b' (fO Q hN bs)):=by
         show dP _ _ _ (fO Q hN bs);have e:fO Q hN bs=Q1:=by
          unfold fO;rw [x4.out,<-z5.out,<-HR.out];rfl
         rw [e];exact x9.out
        have zV:=kF;have z0:=uV;clear h8 x9 kF uV d7 rG;generalize b7:w5=w9 at*;clear b7;have y8:Hid (Only [] w0 w9):=y3.out.trans y6.out (fun x hx=>.inr (by have:=HB.out;have:=y3.out.size;simp at hx;rcases hx with rfl|rfl<;>omega))
        have x2:=(H.out.aK y8.out);have e0:=x2.cells.1;have j7:=x2.cells.2.1;have ef:=x2.cells.2.2 0;have h4:=aBL (w9:=w9) (o:=o) (kd:=kd) (cl:=cl) (n:=n) (rv:=.slice ra rn rc) (T:=184) H.out OK.out (g6.out trivial) (Q:=Q) (bs:=bs) (by
          have:=x8.out trivial;rw [<-HN.out,<-y0.out];exact this) (by rw [<-a4.out trivial];exact y7.out) y8.out zV.out g5.out g2.out HN.out (d6.out.only y6.out (fun g' h0=>by have:=z6.out g' h0;have:=HB.out;simp;omega)) z0.out (by have:=HB.out;omega) z6.out HB.out.1 HB.out.2.1 (by have:=HB.out;have:=h6.out;omega) (by have:=HB.out;have:=h6.out;omega)
        rw [<-a4.out trivial] at h4;obtain ⟨l5,g0,y9⟩:=h4;have a8:=aA y9;clear y9 x2 y7 zV z0;go_wp2;exact hR.out _ _ a8.out
      have m0:k - 1<7:=by omega
      go_wp2;go_loopw [81] (fun iv wr=>∃ j:Nat,j<=k - 1/\iv=.int .i64 j/\dP wr p' b' (vH Q1 (a0+1) (bs.drop 1) j)/\Only [b'] w5 wr) (fun iv _=>7 - (intOf iv).toNat)
      case atStart=>exact ⟨0,by omega,rfl,x9.out,Only.refl _ _⟩
      case round=>
       obtain ⟨j,hj,rfl,hp,ho⟩:=hrel;have y2:Row wr xb 184 [.int .i64 kd,.int .i64 cl,.int .i64 n,.slice ra rn rc,.slice (some ⟨g4,0,none⟩) k bc]:=ho.row kF.out (by have:=HB.out;simp;omega);have i8:=aA hp;have c5:=aA ho
       by_cases f3:j<k - 1
       ·have f0:=rG.out (1+j) (by omega) wr ho;have b9:=rG.out 0 (by omega) wr ho;rw [<-z5.out] at b9;have c9:wr.cell? ⟨xb,4,none⟩=_:=y2.cell 4 rfl;have a5:(j:Int)<((k - 1:Nat):Int):=by omega
        have m6:(0:Int)<=j:=by omega
        have d:=iM wr p' b' _ hp (a0+1+(j:Int)) (gI bs (1+j));have kE:Hid (True->vH Q1 (a0+1) (bs.drop 1) (j+1)=((vH Q1 (a0+1) (bs.drop 1) j).setCell (a0+1+(j:Int)) (gI bs (1+j))).2):=fun _=>by
         show ((vH Q1 (a0+1) (bs.drop 1) j).setCell (a0+1+(j:Int)) (gI (bs.drop 1) j)).2=_;congr 2;unfold gI;rw [List.getElem?_drop]
        generalize (vH Q1 (a0+1) (bs.drop 1) j).setCell (a0+1+(j:Int)) (gI bs (1+j))=r at d kE;obtain ⟨f1,f2⟩:=r;generalize gI bs (1+j)=y at f0 d;clear hp ho y2;go_wp2_with fail;refine d.mono ?_;rintro e w6 ⟨rfl,f5,y1⟩;have i6:Hid (dP w6 p' b' (vH Q1 (a0+1) (bs.drop 1) (j+1))):=by
         show dP _ _ _ _;rw [kE.out trivial];exact f5
        have i4:Hid (Only [b'] w5 w6):=c5.out.trans y1 (fun x hx=>.inl hx);clear f5 y1 d f0 b9 c9;go_wp2;exact ⟨⟨j+1,by omega,by go_num,i6.out,i4.out⟩,by simp [intOf];omega⟩
       have m9:¬ (j:Int)<((k - 1:Nat):Int):=by omega
       have y6:Hid (Only [xb,b'] w3 wr):=h8.out.trans ho (fun x hx=>.inl (by simp at hx;simp [hx]));have y7:Hid (dP wr p' b' (fO Q hN bs)):=by
        show dP _ _ _ (fO Q hN bs);have e:fO Q hN bs=vH Q1 (a0+1) (bs.drop 1) j:=by
         unfold fO;rw [x4.out,<-z5.out,<-HR.out,show k - 1=j by omega]
        rw [e];exact hp
       have zV:Hid (Row wr xb 184 [.int .i64 kd,.int .i64 cl,.int .i64 n,.slice ra rn rc,.slice (some ⟨g4,0,none⟩) k bc]):=y2;have z0:Hid (aN wr b3 (.slice (some ⟨g4,0,none⟩) k bc) bs):=uV.out.only ho (fun g' h0=>by have:=(uV.out.own g' h0).1;have:=HB.out;have:=h6.out;simp;omega);clear h8 x9 kF uV d7 rG hp ho y2 i8 c5;generalize b7:wr=w9 at*;clear b7;have y8:Hid (Only [] w0 w9):=y3.out.trans y6.out (fun x hx=>.inr (by have:=HB.out;have:=y3.out.size;simp at hx;rcases hx with rfl|rfl<;>omega))
       have x2:=(H.out.aK y8.out);have e0:=x2.cells.1;have j7:=x2.cells.2.1;have ef:=x2.cells.2.2 0;have h4:=aBL (w9:=w9) (o:=o) (kd:=kd) (cl:=cl) (n:=n) (rv:=.slice ra rn rc) (T:=184) H.out OK.out (g6.out trivial) (Q:=Q) (bs:=bs) (by
         have:=x8.out trivial;rw [<-HN.out,<-y0.out];exact this) (by rw [<-a4.out trivial];exact y7.out) y8.out zV.out g5.out g2.out HN.out (d6.out.only y6.out (fun g' h0=>by have:=z6.out g' h0;have:=HB.out;simp;omega)) z0.out (by have:=HB.out;omega) z6.out HB.out.1 HB.out.2.1 (by have:=HB.out;have:=h6.out;omega) (by have:=HB.out;have:=h6.out;omega)
       rw [<-a4.out trivial] at h4;obtain ⟨l5,g0,y9⟩:=h4;have a8:=aA y9;clear y9 x2 y7 zV z0;go_wp2;exact hR.out _ _ a8.out
   have j8:¬ (7:Int)<n:=by omega
   have c0:Hid ([lZ (1+n)]=aS n):=(xU h7).symm;have d3:=aA (wM (w1.alloc (.cells #[.int .i64 (lZ (1+n))] 3)) X.pp X.pb M.P (H.out.aK (a6.out.trans x6.out (by simp))).pool);go_wp2_with fail;generalize (w1.alloc (.cells #[.int .i64 (lZ (1+n))] 3))=w2 at*;have a7:Hid (xb<w1.heap.size):=g1;generalize f7:w1.heap.size=sg at*;have z7:=aA (show aN w2 sg (.slice (some ⟨sg,0,none⟩) 1 1) (aS n) by rw [<-c0.out];exact y5.out);have y4:Hid (Only [] w0 w2):=a6.out.trans x6.out (by simp);have c8:Hid (Row w2 xb 184 [.int .i64 kd,.int .i64 cl,.int .i64 n,.slice ra rn rc,.slice none 0 0]):=x6.out.row qB.out (by simp);have d5:Hid (Bls w2 w0.heap.size (.slice ra rn rc) o.dY):=g8.out.only x6.out (by simp);generalize Value.slice (some ⟨sg,0,none⟩) 1 1=v7 at*;clear y5 c0 f7 f9 d0 d2 j8 g8 qB;obtain ⟨g,sc,l4,j5,k4,l3⟩:∃ g sc,v7=.slice (some ⟨g,0,none⟩) (aS n).length sc/\sg<=g/\g<w2.heap.size/\(aS n).length<=sc:=by
    rcases z7.out.form with ⟨_,e⟩|⟨g,sc,e1,e2,e3,e4,_⟩
    ·have:=jT n;rw [e] at this;simp at this
    exact ⟨g,sc,e1,e2,e3,e4⟩
   subst l4;have l0:=jT n;have l1:=wG n j1;obtain ⟨sn,b6⟩:∃ z,z=(aS n).length:=⟨_,rfl⟩;rw [<-b6] at l0 l1 z7 l3 ⊢;have y0:=aA b6;clear b6;refine d3.out.mono ?_;rintro e w3 ⟨p',b',rfl,z9,z1,j6,j3⟩;have y3:Hid (Only [] w0 w3):=y4.out.trans z1 (by simp);have d1:Hid (Row w3 xb 184 [.int .i64 kd,.int .i64 cl,.int .i64 n,.slice ra rn rc,.slice none 0 0]):=z1.row c8.out (by simp);have d6:Hid (Bls w3 w0.heap.size (.slice ra rn rc) o.dY):=d5.out.only z1 (by simp);have j4:Hid (aN w3 sg (.slice (some ⟨g,0,none⟩) sn sc) (aS n)):=z7.out.only z1 (by simp);obtain ⟨_,_,_,_,e8,e9⟩:=z9.facts;have HB:Hid (xb<p'/\xb<b'/\g<b'/\xb<g/\p'<w3.heap.size/\b'<w3.heap.size/\p'≠b'/\w0.heap.size<=xb):=⟨by have:=a7.out;omega,by have:=a7.out;omega,by omega,by have:=a7.out;omega,e8,e9,z9.ne,HX.out⟩;have c7:=aA z9;clear d3 x6 a6 y4 c8 d5 z7 z1 j6 j3 e8 e9 z9 j5 k4;obtain ⟨b3,d9⟩:∃ z,z=w3.heap.size:=⟨_,rfl⟩;have h6:=aA d9;clear d9;go_wp2;go_loopw [51] (fun iv wr=>∃ (k:Nat) (bs:List Int) (Q:Pl) (bv:Value),k<=sn/\iv=.int .i64 k/\Hid (True->dD M.P (aS n) k=some (bs,Q))/\dP wr p' b' Q/\aN wr b3 bv bs/\Row wr xb 184 [.int .i64 kd,.int .i64 cl,.int .i64 n,.slice ra rn rc,bv]/\Only [xb,b'] w3 wr) (fun iv _=>sn - (intOf iv).toNat)
   case atStart=>exact ⟨0,[],M.P,.slice none 0 0,by omega,rfl,fun _=>rfl,c7.out,aN.nil _ _,d1.out,Only.refl _ _⟩
   case round=>
    clear c7 d1;obtain ⟨k,bs,Q,bv,hk,rfl,x8,hp,b4,z3,ho⟩:=hrel;have b1:bs.length=k:=(dW OK.out.p (l:=aS n) (fun m hm=>dO _ hm) k (by have:=y0.out;omega) bs Q (x8.out trivial)).len;obtain ⟨ba,bc,e5⟩:=b4.len;rw [b1] at e5;subst e5;have x4:=aA b1;have HP:=aA hp;have x5:=aA b4;have nO:=aA z3;have HO:=aA ho;have c4:wr.cell? ⟨xb,4,none⟩=_:=z3.cell 4 rfl;clear hp b4 z3 ho b1
    by_cases f3:k<sn
    ·have a5:(k:Int)<sn:=by omega
     have n0:(0:Int)<=k:=by omega
     have e7:wr.cell? ⟨g,k,none⟩=some (.int .i64 (gI (aS n) k)):=by
      rcases (j4.out.only HO.out (fun g' h0=>by cases h0;have:=HB.out;simp;omega)).form with ⟨e,_⟩|⟨g',c',e1,_,_,_,h5⟩
      ·cases e
      cases e1;exact h5 k (by have:=y0.out;omega)
     have z8:=aDw wr p' b' Q HP.out (gI (aS n) k);obtain ⟨c,hc⟩:∃ z,z=gI (aS n) k:=⟨_,rfl⟩;rw [<-hc] at e7 z8;obtain ⟨r,hr⟩:∃ z,z=Q.alloc c:=⟨_,rfl⟩;rw [<-hr] at z8;have HR:=aA hr;have HC:=aA hc;obtain ⟨a1,e1,Q1⟩:=r;clear hr hc c4;go_wp2_with fail;refine z8.mono ?_;rintro e w5 ⟨rfl,z2,x3⟩;have x9:Hid (dP w5 p' b' Q1):=z2;have h8:Hid (Only [xb,b'] w3 w5):=HO.out.trans x3 (fun x hx=>.inl (by simp at hx;simp [hx]));have kF:Hid (Row w5 xb 184 [.int .i64 kd,.int .i64 cl,.int .i64 n,.slice ra rn rc,.slice ba k bc]):=x3.row nO.out (by have:=HB.out;simp;omega);have uV:Hid (aN w5 b3 (.slice ba k bc) bs):=x5.out.only x3 (fun g' h0=>by have:=(x5.out.own g' h0).1;have:=HB.out;have:=h6.out;simp;omega);have c4:w5.cell? ⟨xb,4,none⟩=_:=kF.out.cell 4 rfl;clear z8 z2 x3 e7 nO x5 HO HP
     by_cases he:e1=0
     ·subst he;go_wp2_with (at_builtin;refine bD rfl _ _ rfl b3 _ _ rfl (uV.out.alloc _) w5.heap.size a1 rfl ?c1 ?c2 ?c3 ?c4)
      case c1=>exact (Row.new w5 _ [_]).cell 0 rfl
      case c2=>have:=x4.out;omega
      case c3=>have:=h8.out.size;have:=h6.out;simp;omega
      case c4=>
       intro v' w6 a3 y1 k1;obtain ⟨h9,x1,f8⟩:=a3.len;obtain ⟨nb,f4⟩:∃ z,z=(bs ++ [a1]).length:=⟨_,rfl⟩;rw [<-f4] at f8;subst f8;clear f4 k1;have x7:∀ x∈(Value.slice ba k bc).ownBlock.toList,b3<=x:=fun x hx=>(uV.out.own x (by simpa using hx)).1;have b8:∀ x∈(Value.slice ba k bc).ownBlock.toList,x<w5.heap.size:=fun x hx=>(uV.out.own x (by simpa using hx)).2;have hB:=HB.out;have j9:=h6.out;have a2:=y1.row (kF.out.alloc (.cells #[.int .i64 a1] 3)) (fun hx=>by have:=x7 _ hx;omega);have f6:=a2.free 4;have c6:w6.cell? ⟨xb,4,none⟩=_:=a2.cell 4 rfl;have i7:Hid (dP (w6.setCell ⟨xb,4,none⟩ (.slice h9 nb x1)) p' b' Q1):=
        (((x9.out.only ((Only.refl [] w5).alloc (.cells #[.int .i64 a1] 3)) (by simp) (by simp)).only y1 (fun hx=>by have:=x7 _ hx;omega) (fun hx=>by have:=x7 _ hx;omega)).only ((Only.refl [xb] w6).set (p:=⟨xb,4,none⟩) (.inl (by simp)) (.slice h9 nb x1)) (by simp;omega) (by simp;omega))
       have i9:Hid (aN (w6.setCell ⟨xb,4,none⟩ (.slice h9 nb x1)) b3 (.slice h9 nb x1) (bs ++ [a1])):=a3.only ((Only.refl [xb] w6).set (p:=⟨xb,4,none⟩) (.inl (by simp)) (.slice h9 nb x1)) (fun g' h0=>by have:=(a3.own g' h0).1;simp;omega);have j0:Hid (Row (w6.setCell ⟨xb,4,none⟩ (.slice h9 nb x1)) xb 184 [.int .i64 kd,.int .i64 cl,.int .i64 n,.slice ra rn rc,(.slice h9 nb x1)]):=a2.set 4 (.slice h9 nb x1);have i5:Hid (Only [xb,b'] w3 (w6.setCell ⟨xb,4,none⟩ (.slice h9 nb x1))):=((h8.out.alloc _).trans y1 (fun x hx=>.inr (by have:=x7 _ hx;omega))).set (.inl (by simp)) _;have j2:Hid (True->dD M.P (aS n) (k+1)=some (bs ++ [a1],Q1)):=fun _=>by
        rw [iV (x8.out trivial),<-HC.out,<-HR.out];rfl
       clear a3 y1 x7 b8 hB j9 a2 x9 h8 kF uV c4 x8;go_wp2;exact ⟨⟨k+1,bs ++ [a1],Q1,(.slice h9 nb x1),by omega,by go_num,j2,i7.out,i9.out,j0.out,i5.out⟩,by simp [intOf];omega⟩
     have d4:Hid (True->M.add o=(0,14,M)):=fun _=>aBK (k:=k+1) (by rw [<-HN.out,<-y0.out];omega) (by
      rw [<-HN.out,iV (x8.out trivial),<-HC.out,<-HR.out];show (if e1=0 then _ else _)=_;rw [if_neg he])
     go_wp2_with fail;refine hR.out _ _ ?_;rw [d4.out trivial];exact vU.none0 H.out (y3.out.trans h8.out (fun x hx=>.inr (by have:=HB.out;have:=y3.out.size;simp at hx;rcases hx with rfl|rfl<;>omega)))
    obtain rfl:k=sn:=by omega
    obtain ⟨g4,k2,e6,m7⟩:∃ g4,ba=some ⟨g4,0,none⟩/\b3<=g4/\k<=bc:=by
     rcases x5.out.form with ⟨e,e2⟩|⟨g4,c',e1,e2,_,e4,_⟩
     ·rw [e2] at x4;have:=x4.out;simp at this;omega
     cases e1;rw [x4.out] at e4;exact ⟨g4,rfl,e2,e4⟩
    subst k2;have i3:=aA e6;have z4:Hid (∀ i,i<k->∀ wx F,Only F wr wx->g4∉F->wx.cell? ⟨g4,i,none⟩=some (.int .i64 (gI bs i))):=fun i hi wx F hox hgf=>by
     rcases x5.out.form with ⟨e,_⟩|⟨g',c',e1,_,_,_,h5⟩
     ·cases e
     cases e1;exact hox.cell (h5 i (by rw [x4.out];exact hi)) hgf
    have b0:=z4.out 0 (by omega) wr [] (Only.refl _ _) (by simp);have d:=iM wr p' b' Q HP.out (gI bs 0) hN;obtain ⟨a0,a9⟩:∃ z,z=gI bs 0:=⟨_,rfl⟩;rw [<-a9] at b0 d;have z5:=aA a9;obtain ⟨r,hr⟩:∃ z,z=Q.setCell a0 hN:=⟨_,rfl⟩;rw [<-hr] at d;have HR:=aA hr;obtain ⟨e1,Q1⟩:=r;clear hr a9 e6;go_wp2_with fail;refine d.mono ?_;rintro e w5 ⟨rfl,z2,x3⟩;have x9:Hid (dP w5 p' b' Q1):=z2;have h8:Hid (Only [xb,b'] w3 w5):=HO.out.trans x3 (fun x hx=>.inl (by simp at hx;simp [hx]));have kF:Hid (Row w5 xb 184 [.int .i64 kd,.int .i64 cl,.int .i64 n,.slice ra rn rc,.slice (some ⟨g4,0,none⟩) k bc]):=x3.row nO.out (by have:=HB.out;simp;omega);have uV:Hid (aN w5 b3 (.slice (some ⟨g4,0,none⟩) k bc) bs):=x5.out.only x3 (fun g' h0=>by have:=(x5.out.own g' h0).1;have:=HB.out;have:=h6.out;simp;omega);have d7:w5.cell? ⟨xb,4,none⟩=_:=kF.out.cell 4 rfl;have m5:0<=a0/\a0<=384:=by
     have s:=dW OK.out.p (l:=aS n) (fun m hm=>dO _ hm) k (by have:=y0.out;omega) bs Q (x8.out trivial);have h1:=(s.new 0 (by omega)).range (dO _ (by have:=y0.out;omega));have h2:=s.n;have h3:=OK.out.n24;rw [<-z5.out] at h1;omega
    have rG:Hid (∀ i,i<k->∀ wx,Only [b'] w5 wx->wx.cell? ⟨g4,i,none⟩=some (.int .i64 (gI bs i))):=fun i hi wx hox=>by
     rcases uV.out.form with ⟨e,_⟩|⟨g',c',e1,_,_,_,h5⟩
     ·cases e
     cases e1;exact hox.cell (h5 i (by rw [x4.out];exact hi)) (by have:=i3.out;have:=HB.out;have:=h6.out;simp;omega)
    clear d z2 x3 nO x5 HO HP c4 b0 z4
    by_cases d8:bc=1
    ·subst d8;obtain rfl:k=1:=by omega
     go_wp2;go_loopw [81] (fun iv wr=>iv=.int .i64 0/\w5=wr) (fun _ _=>0)
     case atStart=>exact ⟨rfl,rfl⟩
     case round=>
      obtain ⟨rfl,rfl⟩:=hrel;have y6:Hid (Only [xb,b'] w3 w5):=h8;have y7:Hid (dP w5 p' b' (fO Q hN bs)):=by
       show dP _ _ _ (fO Q hN bs);have e:fO Q hN bs=Q1:=by
        unfold fO;rw [x4.out,<-z5.out,<-HR.out];rfl
       rw [e];exact x9.out
      have zV:=kF;have z0:=uV;clear h8 x9 kF uV d7 rG;generalize b7:w5=w9 at*;clear b7;have y8:Hid (Only [] w0 w9):=y3.out.trans y6.out (fun x hx=>.inr (by have:=HB.out;have:=y3.out.size;simp at hx;rcases hx with rfl|rfl<;>omega))
      have x2:=(H.out.aK y8.out);have e0:=x2.cells.1;have j7:=x2.cells.2.1;have ef:=x2.cells.2.2 0;have h4:=aBL (w9:=w9) (o:=o) (kd:=kd) (cl:=cl) (n:=n) (rv:=.slice ra rn rc) (T:=184) H.out OK.out (g6.out trivial) (Q:=Q) (bs:=bs) (by
        have:=x8.out trivial;rw [<-HN.out,<-y0.out];exact this) (by rw [<-a4.out trivial];exact y7.out) y8.out zV.out g5.out g2.out HN.out (d6.out.only y6.out (fun g' h0=>by have:=z6.out g' h0;have:=HB.out;simp;omega)) z0.out (by have:=HB.out;omega) z6.out HB.out.1 HB.out.2.1 (by have:=HB.out;have:=h6.out;omega) (by have:=HB.out;have:=h6.out;omega)
      rw [<-a4.out trivial] at h4;obtain ⟨l5,g0,y9⟩:=h4;have a8:=aA y9;clear y9 x2 y7 zV z0;go_wp2;exact hR.out _ _ a8.out
    have m0:k - 1<7:=by omega
    go_wp2;go_loopw [81] (fun iv wr=>∃ j:Nat,j<=k - 1/\iv=.int .i64 j/\dP wr p' b' (vH Q1 (a0+1) (bs.drop 1) j)/\Only [b'] w5 wr) (fun iv _=>7 - (intOf iv).toNat)
    case atStart=>exact ⟨0,by omega,rfl,x9.out,Only.refl _ _⟩
    case round=>
     obtain ⟨j,hj,rfl,hp,ho⟩:=hrel;have y2:Row wr xb 184 [.int .i64 kd,.int .i64 cl,.int .i64 n,.slice ra rn rc,.slice (some ⟨g4,0,none⟩) k bc]:=ho.row kF.out (by have:=HB.out;simp;omega);have i8:=aA hp;have c5:=aA ho
     by_cases f3:j<k - 1
     ·have f0:=rG.out (1+j) (by omega) wr ho;have b9:=rG.out 0 (by omega) wr ho;rw [<-z5.out] at b9;have c9:wr.cell? ⟨xb,4,none⟩=_:=y2.cell 4 rfl;have a5:(j:Int)<((k - 1:Nat):Int):=by omega
      have m6:(0:Int)<=j:=by omega
      have d:=iM wr p' b' _ hp (a0+1+(j:Int)) (gI bs (1+j));have kE:Hid (True->vH Q1 (a0+1) (bs.drop 1) (j+1)=((vH Q1 (a0+1) (bs.drop 1) j).setCell (a0+1+(j:Int)) (gI bs (1+j))).2):=fun _=>by
       show ((vH Q1 (a0+1) (bs.drop 1) j).setCell (a0+1+(j:Int)) (gI (bs.drop 1) j)).2=_;congr 2;unfold gI;rw [List.getElem?_drop]
      generalize (vH Q1 (a0+1) (bs.drop 1) j).setCell (a0+1+(j:Int)) (gI bs (1+j))=r at d kE;obtain ⟨f1,f2⟩:=r;generalize gI bs (1+j)=y at f0 d;clear hp ho y2;go_wp2_with fail;refine d.mono ?_;rintro e w6 ⟨rfl,f5,y1⟩;have i6:Hid (dP w6 p' b' (vH Q1 (a0+1) (bs.drop 1) (j+1))):=by
       show dP _ _ _ _;rw [kE.out trivial];exact f5
      have i4:Hid (Only [b'] w5 w6):=c5.out.trans y1 (fun x hx=>.inl hx);clear f5 y1 d f0 b9 c9;go_wp2;exact ⟨⟨j+1,by omega,by go_num,i6.out,i4.out⟩,by simp [intOf];omega⟩
     have m9:¬ (j:Int)<((k - 1:Nat):Int):=by omega
     have y6:Hid (Only [xb,b'] w3 wr):=h8.out.trans ho (fun x hx=>.inl (by simp at hx;simp [hx]));have y7:Hid (dP wr p' b' (fO Q hN bs)):=by
      show dP _ _ _ (fO Q hN bs);have e:fO Q hN bs=vH Q1 (a0+1) (bs.drop 1) j:=by
       unfold fO;rw [x4.out,<-z5.out,<-HR.out,show k - 1=j by omega]
      rw [e];exact hp
     have zV:Hid (Row wr xb 184 [.int .i64 kd,.int .i64 cl,.int .i64 n,.slice ra rn rc,.slice (some ⟨g4,0,none⟩) k bc]):=y2;have z0:Hid (aN wr b3 (.slice (some ⟨g4,0,none⟩) k bc) bs):=uV.out.only ho (fun g' h0=>by have:=(uV.out.own g' h0).1;have:=HB.out;have:=h6.out;simp;omega);clear h8 x9 kF uV d7 rG hp ho y2 i8 c5;generalize b7:wr=w9 at*;clear b7;have y8:Hid (Only [] w0 w9):=y3.out.trans y6.out (fun x hx=>.inr (by have:=HB.out;have:=y3.out.size;simp at hx;rcases hx with rfl|rfl<;>omega))
     have x2:=(H.out.aK y8.out);have e0:=x2.cells.1;have j7:=x2.cells.2.1;have ef:=x2.cells.2.2 0;have h4:=aBL (w9:=w9) (o:=o) (kd:=kd) (cl:=cl) (n:=n) (rv:=.slice ra rn rc) (T:=184) H.out OK.out (g6.out trivial) (Q:=Q) (bs:=bs) (by
       have:=x8.out trivial;rw [<-HN.out,<-y0.out];exact this) (by rw [<-a4.out trivial];exact y7.out) y8.out zV.out g5.out g2.out HN.out (d6.out.only y6.out (fun g' h0=>by have:=z6.out g' h0;have:=HB.out;simp;omega)) z0.out (by have:=HB.out;omega) z6.out HB.out.1 HB.out.2.1 (by have:=HB.out;have:=h6.out;omega) (by have:=HB.out;have:=h6.out;omega)
     rw [<-a4.out trivial] at h4;obtain ⟨l5,g0,y9⟩:=h4;have a8:=aA y9;clear y9 x2 y7 zV z0;go_wp2;exact hR.out _ _ a8.out
end
end Go.Proofs.YthflghdaejbdkaaGreat
