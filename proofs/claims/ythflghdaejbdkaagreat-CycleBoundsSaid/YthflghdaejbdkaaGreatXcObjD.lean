/- Lemmas of this claim. -/
import Derived.Test.YthflghdaejbdkaaGreatXcObj
namespace Go.Proofs.YthflghdaejbdkaaGreat
open Go.RowKit Go.Maps
set_option maxHeartbeats 3200000
set_option maxRecDepth 100000
set_option linter.unusedVariables false
section
variable {w w':World} {L:Nat->Option Lb} {hb:Nat} {M:Hp} {X:HX}
theorem dK.aQe {P:Pl} {ob:Int->Option Th} (h:dK w L hb ⟨P,ob⟩ X) {x:Int} (hg:aI (·=X.mb) w w') (hm:dO w' X.mb 192 (fun k=>if k=x then none else (ob k).map fun _=>X.blk k)):dK w' L hb ⟨P,dZ ob x none⟩ X:=by
 have hP:aI (fun k=>L k=some .map) w w':=hg.mono (fun y hy=>.inl (by rw [hy];exact h.Lp));have z:∀ k ℓ,ℓ≠Lb.map->L k=some .map->L k≠some ℓ:=fun k ℓ h1 hk e=>by rw [hk] at e;cases e;exact h1 rfl
 refine ⟨fun k hk=>Nat.lt_of_lt_of_le (h.lt k hk) hP.size,?_,h.Lm,h.pool.dA hP (fun y=>z _ .pool (by simp) y h.Lpp) (fun y=>z _ .pages (by simp) y h.Lpb),h.Lpp,h.Lpb,?_,h.Lp,fun k o' hk=>?_⟩
 ·obtain ⟨T,hr⟩:=h.mem;exact ⟨T,hP.row hr (fun y=>z _ .mem (by simp) y h.Lm)⟩
 ·refine hm.congr (fun k=>?_);show _=(dZ ob x none k).map _;unfold dZ
  by_cases e:k=x
  ·rw [if_pos e,if_pos e];rfl
  rw [if_neg e,if_neg e]
 have h1:ob k=some o':=by
  have d:dZ ob x none k=some o':=hk
  by_cases e:k=x
  ·rw [e,aY] at d;cases d
  rw [bD _ _ e] at d;exact d
 exact (h.th k o' h1).only hP (fun y hy=>⟨z y _ (by simp) hy,z y _ (by simp) hy,z y _ (by simp) hy⟩)
theorem aCA (w:World) (h:dK w L hb M X) (x:Int) (hx:wfI x) (y:M.ob x=none):Calls Tryz.prog 300 #[.pointer (some ⟨hb,0,none⟩),.int .i64 x] w (aO w (.int .i64 3)):=by
 refine aF fun R d=>?_;have z:=nU w h x hx y;clear h y;go_in;go_wp2_with fail;refine z.mono ?_;rintro e _ ⟨rfl,rfl⟩;go_wp2;exact d.out _ _ ⟨rfl,rfl⟩
theorem Hp.xR {M:Hp} {h:Int}:M.refers h h=false:=by unfold Hp.refers;simp
theorem Hp.aEs {M:Hp} {h k:Int} {o:Th} (z:M.ob k=some o) (y:k≠h):M.refers h k=decide (h∈o.vV):=by unfold Hp.refers;rw [z];simp [y]
theorem aCz (w:World) (h:dK w L hb M X) (hk:M.Ok) (x:Int) (hx:wfI x) {o:Th} (ho:M.ob x=some o):Calls Tryz.prog 300 #[.pointer (some ⟨hb,0,none⟩),.int .i64 x] w (vY w L hb (.int .i64 (M.release x).1) (M.release x).2):=by
 refine aF fun R hR=>?_;have b9:M.release x=if M.held x then (13,M) else (0,M.drop x o):=by unfold Hp.release;rw [ho]
 have a1:=aA b9;have h1:=lJ w h x hx ho;have c1:=h.cells.2.1;obtain ⟨D0,y4,a6⟩:=h.mp;have y3:vZ D0 (fun k=>(M.ob k).map fun _=>X.blk k):=a6;have HD:=aA y3
 have H:=aA h;have HK:=aA hk;have y0:=aA ho;have a4:=aA y4;obtain ⟨mb,z5⟩:∃ m,m=X.mb:=⟨_,rfl⟩;rw [<-z5] at c1 a4;have x9:=aA z5;have d1:Hid (wfI x):=hx;clear b9 h hk ho y3 a6 y4 z5 hx;go_in;go_wp2_with fail;refine h1.mono ?_;rintro e _ ⟨rfl,rfl⟩;clear h1;go_wp2_with (at_range;refine wpList_range_own _ rfl _ 173 rfl 3 172 jI Tryz.underlying173 dR mb 192 D0 rfl a4.out ?_;intro w0 y5 b4 d6);go_frame;have Q0:Only [] w w0:=(Only.refl [] w).grown b4 (fun k hk=>by cases hk);clear c1;go_loopw [7] (fun _ wr=>∃ h7 cnt,wr.ranges Tryz.prog 3 dR mb w.heap.size 192 D0 h7 cnt/\Hid (∀ k,wfI k->(M.ob k).isSome=true->h7 (.int .i64 k)=false->M.refers x k=false)/\Only [] w wr) (fun _ wr=>wr.rangeLeft mb w.heap.size)
 case atStart=>
  refine ⟨_,_,y5,fun k hk h3 h4=>?_,Q0⟩;rw [(HD.out k hk).1] at h4
  cases e:M.ob k with
  | none=>rw [e] at h3;cases h3
  | some t=>simp [e] at h4
 case round=>
  clear y5 b4 d6 Q0;obtain ⟨h7,cnt,c0,HF,hO⟩:=hrel;have y8:=aA c0;have HO:=aA hO;clear c0 hO;go_wp2_with (at_next;refine iF rfl _ rfl mb w.heap.size 192 D0 h7 cnt _ HD.out rfl y8.out ?_ ?_)
  ·intro _ b5;have z1:Hid (M.held x=false):=by
    show _=_
    cases e:M.held x
    ·rfl
    obtain ⟨k,d8,x2⟩:=Hp.rP.1 e;have h2:(M.ob ((k:Int)+1)).isSome=true:=by
     unfold Hp.refers at x2
     cases e2:M.ob ((k:Int)+1) with
     | none=>rw [e2] at x2;simp at x2
     | some t=>rfl
    have:=HF.out ((k:Int)+1) (dL (by omega)) h2 (b5 _);rw [this] at x2;cases x2
   clear b5;have d:=H.out.aN HO.out;obtain ⟨b1,d5,_⟩:=HK.out.aAu y0.out;obtain ⟨g,cap,eb,z2⟩:=(d.th x o y0.out).bl.cellsOf b1;have c4:=(d.th x o y0.out).cells.2.2.2.2;rw [eb] at c4;have c7:Hid (L g=some (.bl x)):=(d.th x o y0.out).Ll g (by rw [eb];rfl);obtain ⟨nb,z6⟩:∃ n,n=o.blocks.length:=⟨_,rfl⟩;rw [<-z6] at c4 z2 d5;have z9:=aA z2;have c8:=aA z6;have b0:=aA d;clear eb z2 d z6 b1;obtain ⟨w9,c3⟩:∃ z,z=wr:=⟨_,rfl⟩;rw [<-c3] at HO b0 z9 c4 ⊢;clear c3 y8 HF;go_wp2;go_loopw [45] (fun iv wr=>∃ j:Nat,j<=nb/\iv=.int .i64 j/\dK wr L hb ⟨iH M.P o.blocks j,M.ob⟩ X/\Only [X.pb] w9 wr) (fun iv _=>nb - (intOf iv).toNat)
   case atStart=>exact ⟨0,by omega,rfl,b0.out,Only.refl _ _⟩
   case round=>
    clear c4;obtain ⟨j,hj,rfl,d,ho⟩:=hrel;have mJ:=aA d;have y6:=aA ho;clear d ho;have z4:g∉[X.pb]:=by simp;rintro rfl;have:=mJ.out.Lpb;rw [c7.out] at this;cases this
    by_cases x4:j<nb
    ·have b2:=y6.out.cell (z9.out j x4) z4;have h0:=mJ.out.cells.1;have e3:(0:Int)<=j:=by omega
     have e4:(j:Int)<nb:=by omega
     have h6:=aMS wr X.pp X.pb (iH M.P o.blocks j) mJ.out.pool (gI o.blocks j);have x8:Hid (iH M.P o.blocks (j+1)=((iH M.P o.blocks j).free (gI o.blocks j)).2):=rfl;generalize (iH M.P o.blocks j).free (gI o.blocks j)=fr at h6 x8;obtain ⟨f1,f2⟩:=fr;generalize gI o.blocks j=a at b2 h6;clear z4;go_wp2_with fail;refine h6.mono ?_;rintro e w5 ⟨rfl,b8,z7⟩;have d3:Hid (dK w5 L hb ⟨iH M.P o.blocks (j+1),M.ob⟩ X):=by
      show dK _ _ _ _ _;rw [x8.out];exact mJ.out.gJ z7 b8 (fun _=>rfl) (fun k o' h2=>⟨o',h2,Th.Shape.refl _⟩)
     have c9:=aA (y6.out.trans z7 (fun y hy=>.inl hy));clear b8 z7 h6 b2 h0;go_wp2;exact ⟨⟨j+1,by omega,by go_num,d3.out,c9.out⟩,by simp [intOf];omega⟩
    obtain rfl:j=nb:=by omega
    have c1:=mJ.out.cells.2.1;rw [<-x9.out] at c1;obtain ⟨D1,h8,a9⟩:=mJ.out.mp;have b3:vZ D1 (fun k=>(M.ob k).map fun _=>X.blk k):=a9;have c6:=aA b3;rw [<-x9.out] at h8;have d4:=aA h8;clear a9 b3 h8 z4;go_wp2_with (at_delete;refine wpList_delete_own _ rfl _ _ 173 3 rfl 172 jI Tryz.underlying173 dR mb 192 D1 rfl d4.out _ _ rfl (aNF d1.out) ?_;intro w6 x7 a8);have O6:aI (·=X.mb) wr w6:=(aI.refl _ wr).grown a8.grown (fun k hk=>by cases hk;exact .inl x9.out);have b7:dO w6 X.mb 192 (fun k=>if k=x then none else (M.ob k).map fun _=>X.blk k):=⟨_,by rw [<-x9.out];exact x7,c6.out.del x⟩;have d2:=aA (mJ.out.aQe O6 b7);have d0:Hid (aI (fun k=>L k≠none) w w6):=by
     have q1:aI (fun k=>L k≠none) w w9:=HO.out.xA;have q2:aI (fun k=>L k≠none) w9 wr:=y6.out.toP (fun y hy=>.inl (by simp at hy;rw [hy,H.out.Lpb];simp));have q3:aI (fun k=>L k≠none) wr w6:=O6.mono (fun y hy=>.inl (by rw [hy,H.out.Lp];simp));exact (q1.trans q2 (fun y hy=>.inl hy)).trans q3 (fun y hy=>.inl hy)
    clear O6 b7 x7 a8 c1;go_wp2_with fail;refine hR.out _ _ ?_;rw [a1.out,z1.out];refine ⟨rfl,L,X,?_,fun k hk=>.inl hk,d0.out⟩;have e:M.drop x o=⟨iH M.P o.blocks j,dZ M.ob x none⟩:=by unfold Hp.drop;rw [c8.out]
    rw [show (if false=true then ((13:Int),M) else (0,M.drop x o)).2=M.drop x o from rfl,e];exact d2.out
  intro k c w1 x5 z8 b6 t ht hc x6 x4 z3 c2 d9;have y9:Hid (Only [] w w1):=HO.out.grown z3 (fun j hj=>by cases hj;exact .inr (Nat.le_refl _));have d:=H.out.aN y9.out;have a7:x5<wr.rangeLeft mb w.heap.size:=by rw [y8.out.left_eq];exact x4
  have y7:=aA x6;have kF:Hid (M.refers x k=false->∀ j,wfI j->(M.ob j).isSome=true->(h7 (.int .i64 j) && !(Lit.int .i64 j).sameKey (.int .i64 k))=false->M.refers x j=false):=fun e0 j hj e1 e2=>by
   by_cases e:j=k
   ·subst e;exact e0
   refine HF.out j hj e1 ?_;rw [aLS j k z8] at e2;simp [e] at e2;exact e2
  by_cases x3:k=x
  ·have z0:Hid (M.refers x k=false):=by show _=_;rw [x3];exact Hp.xR
   subst x3;clear x6 b6 x4 z3 c2 hc d z8 ht;go_wp2;exact ⟨⟨_,x5,y7.out,kF.out z0.out,y9.out⟩,by rw [y7.out.left_eq];exact a7⟩
  have e5:(k != x)=true:=by simpa using x3
  have h9:=aCC w1 d HK.out ht;rw [hc] at h9;have a3:Hid (M.refers x k=decide (x∈t.vV)):=Hp.aEs ht x3;have c5:Hid (t.vV.length<=48):=by
   have h2:=t.nG t.slots.length;have h3:=(HK.out.th k t ht).le;show (t.fV t.slots.length).length<=48;omega
  have a0:Hid (1<=k/\k<=192):=HK.out.hr k t ht;generalize t.vV=rl at*;clear x6 b6 x4 z3 c2 hc d z8 ht x3;go_wp2_with fail;refine h9.mono ?_;rintro e w2 ⟨v2,rfl,y1,y2⟩;have a5:=aA (y9.out.trans y2 (by simp));have a2:=aA (xU y7.out (y2.xA (S:=fun _=>False)) (fun x=>x) (fun x=>x));have h5:=pO w2 v2 rl y1.read (by have:=c5.out;omega) x;obtain ⟨e6,e7,d7⟩:=y1.len;subst d7;generalize rl.length=rn at *
  cases x1:decide (x∈rl)
  ·rw [x1] at h5;have z0:Hid (M.refers x k=false):=by show _=_;rw [a3.out,x1]
   clear y1 y2 h9 x1;go_wp2_with fail;refine h5.mono ?_;rintro e _ ⟨rfl,rfl⟩;clear h5;go_wp2;exact ⟨⟨_,x5,a2.out,kF.out z0.out,a5.out⟩,by rw [a2.out.left_eq];exact a7⟩
  rw [x1] at h5;have z1:Hid (M.held x=true):=Hp.rP.2 ⟨k.toNat - 1,by have:=a0.out;omega,by
   rw [show ((k.toNat - 1:Nat):Int)+1=k by have:=a0.out;omega,a3.out,x1]⟩
  clear y1 y2 h9 x1;go_wp2_with fail;refine h5.mono ?_;rintro e _ ⟨rfl,rfl⟩;clear h5;go_wp2_with fail;refine hR.out _ _ ?_;rw [a1.out,z1.out];exact vY.none0 H.out a5.out
theorem aEr (w:World) (h:dK w L hb M X) (z:M.Ok) (x:Int) (hx:wfI x):Calls Tryz.prog 300 #[.pointer (some ⟨hb,0,none⟩),.int .i64 x] w (vY w L hb (.int .i64 (M.release x).1) (M.release x).2):=by
 cases y:M.ob x with
 | none=>
  have d:M.release x=(3,M):=by unfold Hp.release;rw [y]
  rw [d];refine (aCA w h x hx y).mono ?_;rintro e _ ⟨rfl,rfl⟩;exact vY.none h (lN.refl _)
 | some o=>exact aCz w h z x hx y
end
theorem aFg {P:Pl} {l:List Int} {k m:Nat} (h:dF P l k=none) (z:k<=m):dF P l m=none:=by
 induction m with
 | zero=>(obtain rfl:k=0:=(by omega));exact h
 | succ m y=>
  by_cases e:k=m+1
  ·rw [<-e];exact h
  unfold dF;rw [y (by omega)]
theorem iV {P Q:Pl} {l bs:List Int} {k:Nat} (h:dF P l k=some (bs,Q)):dF P l (k+1)=if (Q.alloc (gI l k)).2.1=0 then some (bs ++ [(Q.alloc (gI l k)).1],(Q.alloc (gI l k)).2.2) else none:=by
 unfold dF;rw [h]
theorem aOZ (w:World) (n:Nat) (hn:n<=1000):Calls Tryz.prog 218 #[.int .i64 n] w (aO w (.int .i64 (mO n))):=by
 refine aF fun R y=>?_
 by_cases z:n<=2
 ·have e:mO n=0:=by unfold mO;rw [if_pos z]
  rw [e] at y;have d:(n:Int)<=2:=by omega
  clear e;go_in;go_wp2;exact y.out _ _ ⟨rfl,rfl⟩
 have d:¬ (n:Int)<=2:=by omega
 by_cases h4:n<=4
 ·have e:mO n=1:=by unfold mO;rw [if_neg z,if_pos h4]
  rw [e] at y;have h0:(n:Int)<=4:=by omega
  clear e;go_in;go_wp2;exact y.out _ _ ⟨rfl,rfl⟩
 have e:mO n=2:=by unfold mO;rw [if_neg z,if_neg h4]
 rw [e] at y;have h0:¬ (n:Int)<=4:=by omega
 clear e;go_in;go_wp2;exact y.out _ _ ⟨rfl,rfl⟩
section
variable {w w':World} {L:Nat->Option Lb} {hb:Nat} {M:Hp} {X:HX}
theorem dK.aQJ (h:dK w L hb M X) {hN:Int} {o:Th} {p' b' xb:Nat} {P':Pl} {rv bv:Value} (hg:aI (fun k=>L k=some .mem\/L k=some .map) w w')
  (hm:∃ T,Row w' hb T [.pointer (some ⟨p',0,none⟩),.map (some X.mb)]) (hp:dP w' p' b' P') (x1:dO w' X.mb 192 (fun k=>if k=hN then some xb else (M.ob k).map fun _=>X.blk k))
  (h8:∃ T,Row w' xb T (aAh o rv bv)) (h7:Bls w' w.heap.size rv o.kH) (h5:aK w' w.heap.size bv o.blocks)
  (h1:w.heap.size<=p'/\p'<w'.heap.size) (h2:w.heap.size<=b'/\b'<w'.heap.size) (h3:w.heap.size<=xb/\xb<w'.heap.size)
  (d1:xb≠p') (d2:xb≠b') (d3:∀ g,rv.ownBlock=some g->g≠p'/\g≠b'/\g≠xb) (d4:∀ g,bv.ownBlock=some g->g≠p'/\g≠b'/\g≠xb/\rv.ownBlock≠some g) :
  ∃ L' X',dK w' L' hb ⟨P',dZ M.ob hN (some o)⟩ X'/\∀ k,L' k≠none->L k≠none\/w.heap.size<=k:=by
 obtain ⟨L',z⟩:∃ L':Nat->Option Lb,L'=fun k=>if k=p' then some .pool else if k=b' then some .pages else if k=xb then some (.th hN) else if rv.ownBlock=some k then some (.rb hN) else if bv.ownBlock=some k then some (.bl hN) else L k:=⟨_,rfl⟩;have h0:∀ k,L k≠none->L' k=L k:=fun k y=>by
  have:=h.lt k y;rw [z];simp only;rw [if_neg (by omega),if_neg (by omega),if_neg (by omega),if_neg (fun e=>by have:=(h7.own k e).1;omega),if_neg (fun e=>by have:=(h5.own k e).1;omega)]
 have h4:∀ k,L' k≠none->L k≠none\/(w.heap.size<=k/\k<w'.heap.size):=fun k y=>by
  rw [z] at y;simp only at y
  by_cases e1:k=p'
  ·rw [e1];exact .inr h1
  rw [if_neg e1] at y
  by_cases e2:k=b'
  ·rw [e2];exact .inr h2
  rw [if_neg e2] at y
  by_cases e3:k=xb
  ·rw [e3];exact .inr h3
  rw [if_neg e3] at y
  by_cases e4:rv.ownBlock=some k
  ·exact .inr (h7.own k e4)
  rw [if_neg e4] at y
  by_cases e5:bv.ownBlock=some k
  ·exact .inr (h5.own k e5)
  rw [if_neg e5] at y;exact .inl y
 have h6:∀ k ℓ,ℓ≠Lb.mem->ℓ≠.map->(L k=some .mem\/L k=some .map)->L k≠some ℓ:=fun k ℓ e1 e2 y e=>by
  rcases y with y|y
  ·rw [y] at e;cases e;exact e1 rfl
  rw [y] at e;cases e;exact e2 rfl
 have x2:=hp.ne;refine ⟨L',⟨p',b',X.mb,fun k=>if k=hN then xb else X.blk k,fun k=>if k=hN then rv else X.rv k,fun k=>if k=hN then bv else X.bv k⟩,⟨fun k y=>?_,hm,rG h0 h.Lm,hp,by rw [z];simp,by rw [z];simp [Ne.symm x2],?_,rG h0 h.Lp,fun k u y=>?_⟩,fun k y=>(h4 k y).imp id (fun e=>e.1)⟩
 ·rcases h4 k y with e|e
  ·exact Nat.lt_of_lt_of_le (h.lt k e) hg.size
  exact e.2
 ·refine x1.congr (fun k=>?_);show _=(dZ M.ob hN (some o) k).map fun _=>if k=hN then xb else X.blk k
  by_cases e:k=hN
  ·rw [e,aY,if_pos rfl,if_pos rfl];rfl
  rw [bD _ _ e,if_neg e,if_neg e]
 show aEa w' L' k (if k=hN then xb else X.blk k) (if k=hN then rv else X.rv k) (if k=hN then bv else X.bv k) u;rcases aW y with ⟨rfl,rfl⟩|⟨e,h9⟩
 ·rw [if_pos rfl,if_pos rfl,if_pos rfl];refine ⟨h8,?_,h7.base (Nat.zero_le _),fun g d=>?_,h5.base (Nat.zero_le _),fun g d=>?_⟩
  ·rw [z];simp [d1,d2]
  ·obtain ⟨a1,a2,a3⟩:=d3 g d;rw [z];simp [a1,a2,a3,d]
  obtain ⟨a1,a2,a3,a4⟩:=d4 g d;rw [z];simp [a1,a2,a3,a4,d]
 rw [if_neg e,if_neg e,if_neg e];exact ((h.th k u h9).only hg (fun x hx=>⟨h6 x _ (by simp) (by simp) hx,h6 x _ (by simp) (by simp) hx,h6 x _ (by simp) (by simp) hx⟩)).lab h0
end
set_option maxHeartbeats 6400000
theorem aK.one (w:World) (c:Int):aK (w.alloc (.cells #[.int .i64 c] 3)) w.heap.size (.slice (some ⟨w.heap.size,0,none⟩) 1 1) [c]:=
 ⟨by simp,.inr ⟨w.heap.size,1,#[.int .i64 c],rfl,Nat.le_refl _,Row.new w 3 [.int .i64 c],Nat.le_refl _,by decide,rfl,rfl⟩⟩
theorem yE {n:Nat} (h:¬ 7<n):aS n=[mO (1+n)]:=by unfold aS;rw [if_neg h]
theorem aAF {n j:Nat} (h:7<n) (d:¬ j*8<n) (z:(j - 1)*8<n) (y:0<j):mO (1+n) :: List.replicate j 2=aS n:=by
 unfold aS;rw [if_pos h];have:j=(n+7) / 8:=by omega
 rw [this]
theorem aGd (c:Int) (j:Nat):c :: (List.replicate j (2:Int) ++ [2])=c :: List.replicate (j+1) 2:=by
 rw [<-List.replicate_succ']
section
variable {w0:World} {L:Nat->Option Lb} {hb:Nat} {M:Hp} {X:HX}
theorem aAK {k:Nat} (z:k<192) (h:∀ j,j<k->M.ob ((j:Int)+1)≠none) (y:M.ob ((k:Int)+1)=none):M.least=k:=
 kV (f:=fun k=>(M.ob ((k:Int)+1)).isNone) z (by simp [y]) (fun j hj=>by
  cases e:M.ob ((j:Int)+1) with
  | none=>exact absurd e (h j hj)
  | some o=>simp)
theorem aAL (h:∀ j:Nat,j<192->M.ob ((j:Int)+1)≠none):¬ M.least<192:=by
 have:=fP (f:=fun k=>(M.ob ((k:Int)+1)).isNone) (m:=192) (fun j hj=>by
  cases e:M.ob ((j:Int)+1) with
  | none=>exact absurd e (h j hj)
  | some o=>simp)
 unfold Hp.least;omega
theorem aGl {o:Th} (h:¬ M.least<192):M.add o=(0,14,M):=by unfold Hp.add;rw [if_neg h]
theorem aBY {o:Th} {k:Nat} (y:k<=(aS o.slots.length).length) (h:dF M.P (aS o.slots.length) k=none):M.add o=(0,14,M):=by
 unfold Hp.add;split
 ·rw [aFg h y]
 rfl
theorem aGk {o:Th} {bs:List Int} {Q:Pl} (y:M.least<192) (h:dF M.P (aS o.slots.length) (aS o.slots.length).length=some (bs,Q)) :
  M.add o=((M.least:Int)+1,0,⟨fK Q ((M.least:Int)+1) bs,dZ M.ob ((M.least:Int)+1) (some { o with blocks:=bs })⟩):=by
 unfold Hp.add;rw [if_pos y,h]
theorem aBZ {w9:World} (h:dK w0 L hb M X) (hk:M.Ok) {o:Th} {kd cl:Int} {n:Nat} {rv bv:Value} {p' b' xb T:Nat} {Q:Pl} {bs:List Int} (hl:M.least<192)
  (hs:dF M.P (aS o.slots.length) (aS o.slots.length).length=some (bs,Q)) (hp:dP w9 p' b' (fK Q ((M.least:Int)+1) bs)) (ho:Only [] w0 w9)
  (h1:Row w9 xb T [.int .i64 kd,.int .i64 cl,.int .i64 n,rv,bv]) (e1:kd=o.kind) (e2:cl=o.cls) (e3:n=o.slots.length)
  (h3:Bls w9 w0.heap.size rv o.kH) {base:Nat} (h0:aK w9 base bv bs) (hx:w0.heap.size<=xb) (h4:∀ g,rv.ownBlock=some g->g<xb) (y1:xb<p') (x7:xb<b') (y2:p'<base) (x8:b'<base) :
  ∃ y,(Instr.mapUpdate 173 (.map (some X.mb)) (.int .i64 ((M.least:Int)+1)) (.pointer (some ⟨xb,0,none⟩))).run Tryz.prog (w9.setCell ⟨hb,0,none⟩ (.pointer (some ⟨p',0,none⟩)))=.ok () y/\
   vY w0 L hb (.tuple #[.int .i64 (M.add o).1,.int .i64 (M.add o).2.1]) (M.add o).2.2 (.returned (.tuple #[.int .i64 ((M.least:Int)+1),.int .i64 0])) y:=by
 have h2:hb≠X.mb:=by rintro e;have:=h.Lm;rw [e,h.Lp] at this;cases this
 have hO:aI (·=hb) w0 (w9.setCell ⟨hb,0,none⟩ (.pointer (some ⟨p',0,none⟩))):=(ho.xA (S:=(·=hb))).set (.inl rfl) _;have x1:=h.mp.only hO (fun e=>h2 e.symm);have x5:wfI ((M.least:Int)+1):=dL (by omega);obtain ⟨y,h5,h9,d⟩:=x1.store (by omega) x5 xb;have O9:aI (fun k=>k=hb\/k=X.mb) w9 y:=((aI.refl (fun k=>k=hb\/k=X.mb) w9).set (p:=⟨hb,0,none⟩) (.inl (.inl rfl)) (.pointer (some ⟨p',0,none⟩))).grown d (fun k hk=>by cases hk;exact .inl (.inr rfl));have y0:=h.mp.lt;have x9:hb<w0.heap.size:=h.lt hb (by rw [h.Lm];simp);have y3:=ho.size;have x6:=O9.size;obtain ⟨_,_,_,_,f1,f2⟩:=hp.facts;have y4:=h1.lt;have z:∀ k,w0.heap.size<=k->¬ (k=hb\/k=X.mb):=fun k hk e=>by rcases e with e|e<;>omega
 have x3:=(h.aN ho).mem;obtain ⟨Tm,x4⟩:=x3;have h8:=x4.set 0 (.pointer (some ⟨p',0,none⟩));have h7:Row y hb Tm [.pointer (some ⟨p',0,none⟩),.map (some X.mb)]:=h8.grown d (by intro e;cases e;exact h2 rfl);have O0:aI (fun k=>L k=some .mem\/L k=some .map) w0 y:=(ho.xA (S:=fun k=>L k=some .mem\/L k=some .map)).trans O9 (fun x hx=>by
  rcases hx with rfl|rfl
  ·exact .inl (.inl h.Lm)
  exact .inl (.inr h.Lp))
 have h6:Row y xb T (aAh { o with blocks:=bs } rv bv):=by
  have:=O9.row h1 (z xb hx);unfold aAh;rw [<-e1,<-e2,<-e3];exact this
 have x2:dO y X.mb 192 (fun k=>if k=(M.least:Int)+1 then some xb else (M.ob k).map fun _=>X.blk k):=h9.bound (fun k hs=>by
  by_cases e:k=(M.least:Int)+1
  ·omega
  simp only [e,if_false] at hs
  cases eo:M.ob k with
  | none=>rw [eo] at hs;cases hs
  | some u=>exact hk.hr k u eo)
 obtain ⟨L',X',q1,q2⟩:=h.aQJ (w':=y) (hN:=(M.least:Int)+1) (o:={ o with blocks:=bs }) (p':=p') (b':=b') (xb:=xb) (P':=fK Q ((M.least:Int)+1) bs) (rv:=rv) (bv:=bv) O0 ⟨Tm,h7⟩
  (hp.dA O9 (z p' (by omega)) (z b' (by omega))) x2 ⟨T,h6⟩ (h3.dA O9 (fun g d=>z g (h3.own g d).1)) ((h0.base (b:=w0.heap.size) (by omega)).dA O9 (fun g d=>z g (by have:=(h0.own g d).1;omega)))
  ⟨by omega,by omega⟩ ⟨by omega,by omega⟩ ⟨hx,by omega⟩ (by omega) (by omega) (fun g d=>by have:=h4 g d;omega)
  (fun g d=>⟨by have:=(h0.own g d).1;omega,by have:=(h0.own g d).1;omega,by have:=(h0.own g d).1;omega,fun e=>by have:=(h0.own g d).1;have:=h4 g e;omega⟩)
 refine ⟨y,h5,?_⟩;rw [aGk hl hs];refine ⟨rfl,L',X',q1,q2,O0.mono (fun x hx=>.inl (by rcases hx with e|e<;>rw [e]<;>simp))⟩
theorem aLd (w:World) (h:dK w0 L hb M X) (hk:M.Ok) (hw:Only [] w0 w) (o:Th) (ho:o.ok1) (rv:Value) (l0:Bls w w0.heap.size rv o.kH) :
  Calls Tryz.prog 164 #[.pointer (some ⟨hb,0,none⟩),.agg #[.int .i64 o.kind,.int .i64 o.cls,.int .i64 o.slots.length,rv,.slice none 0 0]] w
   (vY w0 L hb (.tuple #[.int .i64 (M.add o).1,.int .i64 (M.add o).2.1]) (M.add o).2.2):=by
 refine aF fun R hR=>?_;obtain ⟨ra,rc,k9⟩:=l0.len;have j2:=ho.le;obtain ⟨rn,i1⟩:∃ b,b=o.kH.length:=⟨_,rfl⟩;obtain ⟨n,hn⟩:∃ b,b=o.slots.length:=⟨_,rfl⟩;obtain ⟨kd,k8⟩:∃ b,b=o.kind:=⟨_,rfl⟩;obtain ⟨cl,k4⟩:∃ b,b=o.cls:=⟨_,rfl⟩;have g8:=aA l0;rw [k9,<-i1] at g8;rw [k9,<-i1,<-hn,<-k8,<-k4];have H:=aA h;have OK:=aA hk;have HW:=aA hw;have HN:=aA hn;have g6:=aA k8;have g3:=aA k4;have n4:=aA i1;rw [<-hn] at j2;have a7:Hid (Only [] w0 (w.alloc (.cells #[.int .i64 kd,.int .i64 cl,.int .i64 n,.slice ra rn rc,.slice none 0 0] 184))):=hw.alloc _;have qJ:Hid (Row (w.alloc (.cells #[.int .i64 kd,.int .i64 cl,.int .i64 n,.slice ra rn rc,.slice none 0 0] 184)) w.heap.size 184 [.int .i64 kd,.int .i64 cl,.int .i64 n,.slice ra rn rc,.slice none 0 0]):=Row.new w _ [_,_,_,_,_];have g9:Hid (Bls (w.alloc (.cells #[.int .i64 kd,.int .i64 cl,.int .i64 n,.slice ra rn rc,.slice none 0 0] 184)) w0.heap.size (.slice ra rn rc) o.kH):=g8.out.alloc _;have z7:Hid (∀ g,(Value.slice ra rn rc).ownBlock=some g->g<w.heap.size):=fun g hg=>(g8.out.own g hg).2;have HX:Hid (w0.heap.size<=w.heap.size):=hw.size;have g2:w.heap.size<(w.alloc (.cells #[.int .i64 kd,.int .i64 cl,.int .i64 n,.slice ra rn rc,.slice none 0 0] 184)).heap.size:=by simp
 clear h hk hw l0 ho k9;clear hn k8 k4 i1;go_in;go_wp2_with fail;generalize (w.alloc (.cells #[.int .i64 kd,.int .i64 cl,.int .i64 n,.slice ra rn rc,.slice none 0 0] 184))=w1 at*;obtain ⟨xb,m4⟩:∃ b,b=w.heap.size:=⟨_,rfl⟩;rw [<-m4] at qJ z7 HX g2 ⊢;clear m4 g8 HW;have g5:=aA (H.out.aN a7.out);have c1:=g5.out.cells.2.1;go_loopw [6] (fun iv wr=>∃ k:Nat,k<=192/\iv=.int .i64 ((k:Int)+1)/\w1=wr/\Hid (∀ j:Nat,j<k->M.ob ((j:Int)+1)≠none)) (fun iv _=>193 - (intOf iv).toNat)
 case atStart=>exact ⟨0,by omega,rfl,rfl,fun j hj=>by omega⟩
 case round=>
  obtain ⟨k,hk,rfl,rfl,HF⟩:=hrel
  cases b6:M.ob ((k:Int)+1) with
  | some o'=>
   have hl:=g5.out.yQ (dL (by omega)) b6;have m1:k<192:=by have:=(OK.out.hr _ _ b6).2;omega
   have y4:=aA b6;clear b6;go_wp2_with fail;refine ⟨⟨k+1,by omega,by go_num,by trivial,fun j hj=>?_⟩,by simp [intOf];omega⟩
   by_cases e:j=k
   ·rw [e,y4.out];simp
   exact HF.out j (by omega)
  | none=>
   have hl:=g5.out.yR (dL (by omega)) b6;have y4:=aA b6;clear b6
   by_cases l7:k=192
   ·have n5:(192:Int)<(k:Int)+1:=by omega
    have d6:Hid (M.add o=(0,14,M)):=aGl (aAL (fun j hj=>HF.out j (by omega)));clear l7;go_wp2_with fail;refine hR.out _ _ ?_;rw [d6.out];exact vY.none0 H.out a7.out
   have n2:¬ (192:Int)<(k:Int)+1:=by omega
   have l9:Hid (True->M.least=k):=fun _=>aAK (by omega) HF.out y4.out;obtain ⟨hN,k6⟩:∃ z:Int,z=(k:Int)+1:=⟨_,rfl⟩;rw [<-k6] at hl n2 ⊢;have a5:Hid (True->hN=(M.least:Int)+1):=fun _=>by rw [l9.out trivial];exact k6
   have g7:Hid (True->M.least<192):=fun _=>by rw [l9.out trivial];omega
   have b2:w1.cell? ⟨xb,2,none⟩=_:=qJ.out.cell 2 rfl;have i3:Calls Tryz.prog 218 #[.int .i64 (1+(n:Int))] w1 (aO w1 (.int .i64 (mO (1+n)))):=by
    have:=aOZ w1 (1+n) (by omega);rwa [show ((1+n:Nat):Int)=1+(n:Int) by omega] at this
   clear k6 HF y4;go_wp2_with fail;refine i3.mono ?_;rintro e _ ⟨rfl,rfl⟩;clear i3;have y5:Hid (aK (w1.alloc (.cells #[.int .i64 (mO (1+n))] 3)) w1.heap.size (.slice (some ⟨w1.heap.size,0,none⟩) 1 1) [mO (1+n)]):=aK.one w1 _;have x6:Hid (Only [] w1 (w1.alloc (.cells #[.int .i64 (mO (1+n))] 3))):=(Only.refl [] w1).alloc _;have d2:(w1.alloc (.cells #[.int .i64 (mO (1+n))] 3)).cell? ⟨xb,2,none⟩=_:=x6.out.cell b2 (by simp);clear b2 c1 hl;have d0:(w1.alloc (.cells #[.int .i64 (mO (1+n))] 3)).cell? ⟨hb,0,none⟩=_:=x6.out.cell g5.out.cells.1 (by simp);have g0:w1.heap.size<(w1.alloc (.cells #[.int .i64 (mO (1+n))] 3)).heap.size:=by simp
   by_cases h7:7<n
   ·have j9:(7:Int)<n:=by omega
    have H7:=aA h7;go_wp2_with fail;generalize (w1.alloc (.cells #[.int .i64 (mO (1+n))] 3))=w2 at*;obtain ⟨sg,f8⟩:∃ z,z=w1.heap.size:=⟨_,rfl⟩;rw [<-f8] at y5 g0 ⊢;have a8:Hid (xb<sg):=by show xb<sg;omega
    have m0:Hid (sg=w1.heap.size):=f8;clear d0 d2 h7 j9 g2 g0 f8;go_loopw [7,8] (fun v iv wr=>∃ j:Nat,iv=.int .i64 (j*8:Nat)/\j<=6/\(j=0\/(j - 1)*8<n)/\aK wr sg v (mO (1+n) :: List.replicate j 2)/\Only [] w1 wr) (fun _ iv _=>49 - (intOf iv).toNat)
    case atStart=>exact ⟨0,rfl,by omega,.inl rfl,y5.out,x6.out⟩
    case round=>
     clear y5 x6 w2;obtain ⟨j,rfl,m9,hj,i2,ho⟩:=hrel;obtain ⟨va,vc,hv⟩:=i2.len;rw [show (mO (1+n) :: List.replicate j (2:Int)).length=j+1 by simp] at hv;subst hv;have b2:=ho.cell (qJ.out.cell 2 rfl) (by simp);have y5:=aA i2;have x6:=aA ho;obtain ⟨ji,i0⟩:∃ z:Int,z=((j*8:Nat):Int):=⟨_,rfl⟩;rw [<-i0];have l8:=aA i0
     by_cases f4:j*8<n
     ·have a6:ji<(n:Int):=by omega
      have c0:0<=ji:=by omega
      obtain ⟨jn,k7⟩:∃ z,z=j+1:=⟨_,rfl⟩;rw [<-k7] at y5 ⊢;have n3:=aA k7;clear i0 i2 ho k7;go_wp2_with (at_builtin;refine bJ rfl _ _ rfl sg _ _ rfl (y5.out.alloc _) wr.heap.size 2 rfl ?c1 ?c2 ?c3 ?c4)
      case c1=>exact (Row.new wr _ [_]).cell 0 rfl
      case c2=>simp;omega
      case c3=>have:=x6.out.size;have:=m0.out;simp;omega
      case c4=>
       intro v' w5 m3 m2 d9;have m5:=aA m3;have h8:Hid (Only [] w1 w5):=(x6.out.alloc _).trans m2 (fun x hx=>.inr (by have:=(y5.out.own x (by simpa using hx)).1;have:=m0.out;omega));clear m3 m2 d9 y5 x6;go_wp2_with fail;refine ⟨⟨j+1,?_,?_,?_,?_,h8.out⟩,?_⟩
       ·have:=l8.out;go_num
       ·omega
       ·right;show j*8<n;omega
       ·have:=m5.out;rw [aGd] at this;exact this
       have:=l8.out;simp [intOf];omega
     have a6:¬ ji<(n:Int):=by omega
     have c5:Hid (mO (1+n) :: List.replicate j (2:Int)=aS n):=aAF H7.out f4 (by have:=H7.out;omega) (by have:=H7.out;omega);have z8:=aA (show aK wr sg (.slice va (j+1) vc) (aS n) by rw [<-c5.out];exact y5.out);have y4:Hid (Only [] w0 wr):=a7.out.trans x6.out (by simp);have d1:Hid (Row wr xb 184 [.int .i64 kd,.int .i64 cl,.int .i64 n,.slice ra rn rc,.slice none 0 0]):=x6.out.row qJ.out (by simp);have d5:Hid (Bls wr w0.heap.size (.slice ra rn rc) o.kH):=g9.out.only x6.out (by simp);have d0:=(H.out.aN y4.out).cells.1;have d4:=aA (wR wr X.pp X.pb M.P (H.out.aN y4.out).pool);generalize Value.slice va (j+1) vc=v7 at*;clear y5 c5 g9 qJ i2 ho i0 hj m9;go_wp2_with fail;generalize g0:wr=w2 at*;clear g0 d0 b2;obtain ⟨g,sc,l5,j4,k5,l4⟩:∃ g sc,v7=.slice (some ⟨g,0,none⟩) (aS n).length sc/\sg<=g/\g<w2.heap.size/\(aS n).length<=sc:=by
      rcases z8.out.form with ⟨_,e⟩|⟨g,sc,e1,e2,e3,e4,_⟩
      ·have:=jU n;rw [e] at this;simp at this
      exact ⟨g,sc,e1,e2,e3,e4⟩
     subst l5;have l1:=jU n;have l3:=wK n j2;obtain ⟨sn,b7⟩:∃ z,z=(aS n).length:=⟨_,rfl⟩;rw [<-b7] at l1 l3 z8 l4 ⊢;have y0:=aA b7;clear b7;refine d4.out.mono ?_;rintro e w3 ⟨p',b',rfl,a2,z2,j5,j7⟩;have y3:Hid (Only [] w0 w3):=y4.out.trans z2 (by simp);have d3:Hid (Row w3 xb 184 [.int .i64 kd,.int .i64 cl,.int .i64 n,.slice ra rn rc,.slice none 0 0]):=z2.row d1.out (by simp);have d7:Hid (Bls w3 w0.heap.size (.slice ra rn rc) o.kH):=d5.out.only z2 (by simp);have j6:Hid (aK w3 sg (.slice (some ⟨g,0,none⟩) sn sc) (aS n)):=z8.out.only z2 (by simp);obtain ⟨_,_,_,_,e9,f0⟩:=a2.facts;have HB:Hid (xb<p'/\xb<b'/\g<b'/\xb<g/\p'<w3.heap.size/\b'<w3.heap.size/\p'≠b'/\w0.heap.size<=xb):=⟨by have:=a8.out;omega,by have:=a8.out;omega,by omega,by have:=a8.out;omega,e9,f0,a2.ne,HX.out⟩;have c8:=aA a2;clear d4 x6 a7 y4 d1 d5 z8 z2 j5 j7 e9 f0 a2 j4 k5;obtain ⟨b3,e5⟩:∃ z,z=w3.heap.size:=⟨_,rfl⟩;have h6:=aA e5;clear e5;go_wp2;go_loopw [51] (fun iv wr=>∃ (k:Nat) (bs:List Int) (Q:Pl) (bv:Value),k<=sn/\iv=.int .i64 k/\Hid (True->dF M.P (aS n) k=some (bs,Q))/\dP wr p' b' Q/\aK wr b3 bv bs/\Row wr xb 184 [.int .i64 kd,.int .i64 cl,.int .i64 n,.slice ra rn rc,bv]/\Only [xb,b'] w3 wr) (fun iv _=>sn - (intOf iv).toNat)
     case atStart=>exact ⟨0,[],M.P,.slice none 0 0,by omega,rfl,fun _=>rfl,c8.out,aK.nil _ _,d3.out,Only.refl _ _⟩
     case round=>
      clear c8 d3;obtain ⟨k,bs,Q,bv,hk,rfl,x8,hp,b5,z4,ho⟩:=hrel;have b4:bs.length=k:=(dX OK.out.p (l:=aS n) (fun m hm=>dM _ hm) k (by have:=y0.out;omega) bs Q (x8.out trivial)).len;obtain ⟨ba,bc,e6⟩:=b5.len;rw [b4] at e6;subst e6;have x4:=aA b4;have HP:=aA hp;have x5:=aA b5;have nY:=aA z4;have HO:=aA ho;have c4:wr.cell? ⟨xb,4,none⟩=_:=z4.cell 4 rfl;clear hp b5 z4 ho b4
      by_cases f4:k<sn
      ·have a6:(k:Int)<sn:=by omega
       have n1:(0:Int)<=k:=by omega
       have e8:wr.cell? ⟨g,k,none⟩=some (.int .i64 (gI (aS n) k)):=by
        rcases (j6.out.only HO.out (fun g' h0=>by cases h0;have:=HB.out;simp;omega)).form with ⟨e,_⟩|⟨g',c',e1,_,_,_,h5⟩
        ·cases e
        cases e1;exact h5 k (by have:=y0.out;omega)
       have z9:=aDQ wr p' b' Q HP.out (gI (aS n) k);obtain ⟨c,hc⟩:∃ z,z=gI (aS n) k:=⟨_,rfl⟩;rw [<-hc] at e8 z9;obtain ⟨r,hr⟩:∃ z,z=Q.alloc c:=⟨_,rfl⟩;rw [<-hr] at z9;have HR:=aA hr;have HC:=aA hc;obtain ⟨a1,e1,Q1⟩:=r;clear hr hc c4;go_wp2_with fail;refine z9.mono ?_;rintro e w5 ⟨rfl,z3,x3⟩;have x9:Hid (dP w5 p' b' Q1):=z3;have h8:Hid (Only [xb,b'] w3 w5):=HO.out.trans x3 (fun x hx=>.inl (by simp at hx;simp [hx]));have kG:Hid (Row w5 xb 184 [.int .i64 kd,.int .i64 cl,.int .i64 n,.slice ra rn rc,.slice ba k bc]):=x3.row nY.out (by have:=HB.out;simp;omega);have vH:Hid (aK w5 b3 (.slice ba k bc) bs):=x5.out.only x3 (fun g' h0=>by have:=(x5.out.own g' h0).1;have:=HB.out;have:=h6.out;simp;omega);have c4:w5.cell? ⟨xb,4,none⟩=_:=kG.out.cell 4 rfl;clear z9 z3 x3 e8 nY x5 HO HP
       by_cases he:e1=0
       ·subst he;go_wp2_with (at_builtin;refine bJ rfl _ _ rfl b3 _ _ rfl (vH.out.alloc _) w5.heap.size a1 rfl ?c1 ?c2 ?c3 ?c4)
        case c1=>exact (Row.new w5 _ [_]).cell 0 rfl
        case c2=>have:=x4.out;omega
        case c3=>have:=h8.out.size;have:=h6.out;simp;omega
        case c4=>
         intro v' w6 a4 y1 k2;obtain ⟨h9,x1,f9⟩:=a4.len;obtain ⟨nb,f5⟩:∃ z,z=(bs ++ [a1]).length:=⟨_,rfl⟩;rw [<-f5] at f9;subst f9;clear f5 k2;have x7:∀ x∈(Value.slice ba k bc).ownBlock.toList,b3<=x:=fun x hx=>(vH.out.own x (by simpa using hx)).1;have b9:∀ x∈(Value.slice ba k bc).ownBlock.toList,x<w5.heap.size:=fun x hx=>(vH.out.own x (by simpa using hx)).2;have hB:=HB.out;have k1:=h6.out;have a3:=y1.row (kG.out.alloc (.cells #[.int .i64 a1] 3)) (fun hx=>by have:=x7 _ hx;omega);have f6:=a3.free 4;have c6:w6.cell? ⟨xb,4,none⟩=_:=a3.cell 4 rfl;have i8:Hid (dP (w6.setCell ⟨xb,4,none⟩ (.slice h9 nb x1)) p' b' Q1):=
          (((x9.out.only ((Only.refl [] w5).alloc (.cells #[.int .i64 a1] 3)) (by simp) (by simp)).only y1 (fun hx=>by have:=x7 _ hx;omega) (fun hx=>by have:=x7 _ hx;omega)).only ((Only.refl [xb] w6).set (p:=⟨xb,4,none⟩) (.inl (by simp)) (.slice h9 nb x1)) (by simp;omega) (by simp;omega))
         have j0:Hid (aK (w6.setCell ⟨xb,4,none⟩ (.slice h9 nb x1)) b3 (.slice h9 nb x1) (bs ++ [a1])):=a4.only ((Only.refl [xb] w6).set (p:=⟨xb,4,none⟩) (.inl (by simp)) (.slice h9 nb x1)) (fun g' h0=>by have:=(a4.own g' h0).1;simp;omega);have j1:Hid (Row (w6.setCell ⟨xb,4,none⟩ (.slice h9 nb x1)) xb 184 [.int .i64 kd,.int .i64 cl,.int .i64 n,.slice ra rn rc,(.slice h9 nb x1)]):=a3.set 4 (.slice h9 nb x1);have i6:Hid (Only [xb,b'] w3 (w6.setCell ⟨xb,4,none⟩ (.slice h9 nb x1))):=((h8.out.alloc _).trans y1 (fun x hx=>.inr (by have:=x7 _ hx;omega))).set (.inl (by simp)) _;have j3:Hid (True->dF M.P (aS n) (k+1)=some (bs ++ [a1],Q1)):=fun _=>by
          rw [iV (x8.out trivial),<-HC.out,<-HR.out];rfl
         clear a4 y1 x7 b9 hB k1 a3 x9 h8 kG vH c4 x8;go_wp2;exact ⟨⟨k+1,bs ++ [a1],Q1,(.slice h9 nb x1),by omega,by go_num,j3,i8.out,j0.out,j1.out,i6.out⟩,by simp [intOf];omega⟩
       have d6:Hid (True->M.add o=(0,14,M)):=fun _=>aBY (k:=k+1) (by rw [<-HN.out,<-y0.out];omega) (by
        rw [<-HN.out,iV (x8.out trivial),<-HC.out,<-HR.out];show (if e1=0 then _ else _)=_;rw [if_neg he])
       go_wp2_with fail;refine hR.out _ _ ?_;rw [d6.out trivial];exact vY.none0 H.out (y3.out.trans h8.out (fun x hx=>.inr (by have:=HB.out;have:=y3.out.size;simp at hx;rcases hx with rfl|rfl<;>omega)))
      obtain rfl:k=sn:=by omega
      obtain ⟨g4,k3,e7,m8⟩:∃ g4,ba=some ⟨g4,0,none⟩/\b3<=g4/\k<=bc:=by
       rcases x5.out.form with ⟨e,e2⟩|⟨g4,c',e1,e2,_,e4,_⟩
       ·rw [e2] at x4;have:=x4.out;simp at this;omega
       cases e1;rw [x4.out] at e4;exact ⟨g4,rfl,e2,e4⟩
      subst k3;have i4:=aA e7;have z5:Hid (∀ i,i<k->∀ wx F,Only F wr wx->g4∉F->wx.cell? ⟨g4,i,none⟩=some (.int .i64 (gI bs i))):=fun i hi wx F hox hgf=>by
       rcases x5.out.form with ⟨e,_⟩|⟨g',c',e1,_,_,_,h5⟩
       ·cases e
       cases e1;exact hox.cell (h5 i (by rw [x4.out];exact hi)) hgf
      have b0:=z5.out 0 (by omega) wr [] (Only.refl _ _) (by simp);have d:=iP wr p' b' Q HP.out (gI bs 0) hN;obtain ⟨a0,b1⟩:∃ z,z=gI bs 0:=⟨_,rfl⟩;rw [<-b1] at b0 d;have z6:=aA b1;obtain ⟨r,hr⟩:∃ z,z=Q.setCell a0 hN:=⟨_,rfl⟩;rw [<-hr] at d;have HR:=aA hr;obtain ⟨e1,Q1⟩:=r;clear hr b1 e7;go_wp2_with fail;refine d.mono ?_;rintro e w5 ⟨rfl,z3,x3⟩;have x9:Hid (dP w5 p' b' Q1):=z3;have h8:Hid (Only [xb,b'] w3 w5):=HO.out.trans x3 (fun x hx=>.inl (by simp at hx;simp [hx]));have kG:Hid (Row w5 xb 184 [.int .i64 kd,.int .i64 cl,.int .i64 n,.slice ra rn rc,.slice (some ⟨g4,0,none⟩) k bc]):=x3.row nY.out (by have:=HB.out;simp;omega);have vH:Hid (aK w5 b3 (.slice (some ⟨g4,0,none⟩) k bc) bs):=x5.out.only x3 (fun g' h0=>by have:=(x5.out.own g' h0).1;have:=HB.out;have:=h6.out;simp;omega);have d8:w5.cell? ⟨xb,4,none⟩=_:=kG.out.cell 4 rfl;have m6:0<=a0/\a0<=384:=by
       have s:=dX OK.out.p (l:=aS n) (fun m hm=>dM _ hm) k (by have:=y0.out;omega) bs Q (x8.out trivial);have h1:=(s.new 0 (by omega)).range (dM _ (by have:=y0.out;omega));have h2:=s.n;have h3:=OK.out.n24;rw [<-z6.out] at h1;omega
      have rQ:Hid (∀ i,i<k->∀ wx,Only [b'] w5 wx->wx.cell? ⟨g4,i,none⟩=some (.int .i64 (gI bs i))):=fun i hi wx hox=>by
       rcases vH.out.form with ⟨e,_⟩|⟨g',c',e1,_,_,_,h5⟩
       ·cases e
       cases e1;exact hox.cell (h5 i (by rw [x4.out];exact hi)) (by have:=i4.out;have:=HB.out;have:=h6.out;simp;omega)
      clear d z3 x3 nY x5 HO HP c4 b0 z5
      by_cases d9:bc=1
      ·subst d9;obtain rfl:k=1:=by omega
       go_wp2;go_loopw [81] (fun iv wr=>iv=.int .i64 0/\w5=wr) (fun _ _=>0)
       case atStart=>exact ⟨rfl,rfl⟩
       case round=>
        obtain ⟨rfl,rfl⟩:=hrel;have y6:Hid (Only [xb,b'] w3 w5):=h8;have y7:Hid (dP w5 p' b' (fK Q hN bs)):=by
         show dP _ _ _ (fK Q hN bs);have e:fK Q hN bs=Q1:=by
          unfold fK;rw [x4.out,<-z6.out,<-HR.out];rfl
         rw [e];exact x9.out
        have y8:=kG;have z1:=vH;clear h8 x9 kG vH d8 rQ;generalize b8:w5=w9 at*;clear b8;have y9:Hid (Only [] w0 w9):=y3.out.trans y6.out (fun x hx=>.inr (by have:=HB.out;have:=y3.out.size;simp at hx;rcases hx with rfl|rfl<;>omega))
        have x2:=(H.out.aN y9.out);have e0:=x2.cells.1;have j8:=x2.cells.2.1;have ef:=x2.cells.2.2 0;have h4:=aBZ (w9:=w9) (o:=o) (kd:=kd) (cl:=cl) (n:=n) (rv:=.slice ra rn rc) (T:=184) H.out OK.out (g7.out trivial) (Q:=Q) (bs:=bs) (by
          have:=x8.out trivial;rw [<-HN.out,<-y0.out];exact this) (by rw [<-a5.out trivial];exact y7.out) y9.out y8.out g6.out g3.out HN.out (d7.out.only y6.out (fun g' h0=>by have:=z7.out g' h0;have:=HB.out;simp;omega)) z1.out (by have:=HB.out;omega) z7.out HB.out.1 HB.out.2.1 (by have:=HB.out;have:=h6.out;omega) (by have:=HB.out;have:=h6.out;omega)
        rw [<-a5.out trivial] at h4;obtain ⟨l6,g1,z0⟩:=h4;have a9:=aA z0;clear z0 x2 y7 y8 z1;go_wp2;exact hR.out _ _ a9.out
      have m1:k - 1<7:=by omega
      go_wp2;go_loopw [81] (fun iv wr=>∃ j:Nat,j<=k - 1/\iv=.int .i64 j/\dP wr p' b' (vN Q1 (a0+1) (bs.drop 1) j)/\Only [b'] w5 wr) (fun iv _=>7 - (intOf iv).toNat)
      case atStart=>exact ⟨0,by omega,rfl,x9.out,Only.refl _ _⟩
      case round=>
       obtain ⟨j,hj,rfl,hp,ho⟩:=hrel;have y2:Row wr xb 184 [.int .i64 kd,.int .i64 cl,.int .i64 n,.slice ra rn rc,.slice (some ⟨g4,0,none⟩) k bc]:=ho.row kG.out (by have:=HB.out;simp;omega);have i9:=aA hp;have c7:=aA ho
       by_cases f4:j<k - 1
       ·have f3:=rQ.out (1+j) (by omega) wr ho;have c0:=rQ.out 0 (by omega) wr ho;rw [<-z6.out] at c0;have c9:wr.cell? ⟨xb,4,none⟩=_:=y2.cell 4 rfl;have a6:(j:Int)<((k - 1:Nat):Int):=by omega
        have m7:(0:Int)<=j:=by omega
        have d:=iP wr p' b' _ hp (a0+1+(j:Int)) (gI bs (1+j));have kF:Hid (True->vN Q1 (a0+1) (bs.drop 1) (j+1)=((vN Q1 (a0+1) (bs.drop 1) j).setCell (a0+1+(j:Int)) (gI bs (1+j))).2):=fun _=>by
         show ((vN Q1 (a0+1) (bs.drop 1) j).setCell (a0+1+(j:Int)) (gI (bs.drop 1) j)).2=_;congr 2;unfold gI;rw [List.getElem?_drop]
        generalize (vN Q1 (a0+1) (bs.drop 1) j).setCell (a0+1+(j:Int)) (gI bs (1+j))=r at d kF;obtain ⟨f1,f2⟩:=r;generalize gI bs (1+j)=y at f3 d;clear hp ho y2;go_wp2_with fail;refine d.mono ?_;rintro e w6 ⟨rfl,f7,y1⟩;have i7:Hid (dP w6 p' b' (vN Q1 (a0+1) (bs.drop 1) (j+1))):=by
         show dP _ _ _ _;rw [kF.out trivial];exact f7
        have i5:Hid (Only [b'] w5 w6):=c7.out.trans y1 (fun x hx=>.inl hx);clear f7 y1 d f3 c0 c9;go_wp2;exact ⟨⟨j+1,by omega,by go_num,i7.out,i5.out⟩,by simp [intOf];omega⟩
       have n0:¬ (j:Int)<((k - 1:Nat):Int):=by omega
       have y6:Hid (Only [xb,b'] w3 wr):=h8.out.trans ho (fun x hx=>.inl (by simp at hx;simp [hx]));have y7:Hid (dP wr p' b' (fK Q hN bs)):=by
        show dP _ _ _ (fK Q hN bs);have e:fK Q hN bs=vN Q1 (a0+1) (bs.drop 1) j:=by
         unfold fK;rw [x4.out,<-z6.out,<-HR.out,show k - 1=j by omega]
        rw [e];exact hp
       have y8:Hid (Row wr xb 184 [.int .i64 kd,.int .i64 cl,.int .i64 n,.slice ra rn rc,.slice (some ⟨g4,0,none⟩) k bc]):=y2;have z1:Hid (aK wr b3 (.slice (some ⟨g4,0,none⟩) k bc) bs):=vH.out.only ho (fun g' h0=>by have:=(vH.out.own g' h0).1;have:=HB.out;have:=h6.out;simp;omega);clear h8 x9 kG vH d8 rQ hp ho y2 i9 c7;generalize b8:wr=w9 at*;clear b8;have y9:Hid (Only [] w0 w9):=y3.out.trans y6.out (fun x hx=>.inr (by have:=HB.out;have:=y3.out.size;simp at hx;rcases hx with rfl|rfl<;>omega))
       have x2:=(H.out.aN y9.out);have e0:=x2.cells.1;have j8:=x2.cells.2.1;have ef:=x2.cells.2.2 0;have h4:=aBZ (w9:=w9) (o:=o) (kd:=kd) (cl:=cl) (n:=n) (rv:=.slice ra rn rc) (T:=184) H.out OK.out (g7.out trivial) (Q:=Q) (bs:=bs) (by
         have:=x8.out trivial;rw [<-HN.out,<-y0.out];exact this) (by rw [<-a5.out trivial];exact y7.out) y9.out y8.out g6.out g3.out HN.out (d7.out.only y6.out (fun g' h0=>by have:=z7.out g' h0;have:=HB.out;simp;omega)) z1.out (by have:=HB.out;omega) z7.out HB.out.1 HB.out.2.1 (by have:=HB.out;have:=h6.out;omega) (by have:=HB.out;have:=h6.out;omega)
       rw [<-a5.out trivial] at h4;obtain ⟨l6,g1,z0⟩:=h4;have a9:=aA z0;clear z0 x2 y7 y8 z1;go_wp2;exact hR.out _ _ a9.out
   have j9:¬ (7:Int)<n:=by omega
   have c5:Hid ([mO (1+n)]=aS n):=(yE h7).symm;have d4:=aA (wR (w1.alloc (.cells #[.int .i64 (mO (1+n))] 3)) X.pp X.pb M.P (H.out.aN (a7.out.trans x6.out (by simp))).pool);go_wp2_with fail;generalize (w1.alloc (.cells #[.int .i64 (mO (1+n))] 3))=w2 at*;have a8:Hid (xb<w1.heap.size):=g2;generalize f8:w1.heap.size=sg at*;have z8:=aA (show aK w2 sg (.slice (some ⟨sg,0,none⟩) 1 1) (aS n) by rw [<-c5.out];exact y5.out);have y4:Hid (Only [] w0 w2):=a7.out.trans x6.out (by simp);have d1:Hid (Row w2 xb 184 [.int .i64 kd,.int .i64 cl,.int .i64 n,.slice ra rn rc,.slice none 0 0]):=x6.out.row qJ.out (by simp);have d5:Hid (Bls w2 w0.heap.size (.slice ra rn rc) o.kH):=g9.out.only x6.out (by simp);generalize Value.slice (some ⟨sg,0,none⟩) 1 1=v7 at*;clear y5 c5 f8 g0 d0 d2 j9 g9 qJ;obtain ⟨g,sc,l5,j4,k5,l4⟩:∃ g sc,v7=.slice (some ⟨g,0,none⟩) (aS n).length sc/\sg<=g/\g<w2.heap.size/\(aS n).length<=sc:=by
    rcases z8.out.form with ⟨_,e⟩|⟨g,sc,e1,e2,e3,e4,_⟩
    ·have:=jU n;rw [e] at this;simp at this
    exact ⟨g,sc,e1,e2,e3,e4⟩
   subst l5;have l1:=jU n;have l3:=wK n j2;obtain ⟨sn,b7⟩:∃ z,z=(aS n).length:=⟨_,rfl⟩;rw [<-b7] at l1 l3 z8 l4 ⊢;have y0:=aA b7;clear b7;refine d4.out.mono ?_;rintro e w3 ⟨p',b',rfl,a2,z2,j5,j7⟩;have y3:Hid (Only [] w0 w3):=y4.out.trans z2 (by simp);have d3:Hid (Row w3 xb 184 [.int .i64 kd,.int .i64 cl,.int .i64 n,.slice ra rn rc,.slice none 0 0]):=z2.row d1.out (by simp);have d7:Hid (Bls w3 w0.heap.size (.slice ra rn rc) o.kH):=d5.out.only z2 (by simp);have j6:Hid (aK w3 sg (.slice (some ⟨g,0,none⟩) sn sc) (aS n)):=z8.out.only z2 (by simp);obtain ⟨_,_,_,_,e9,f0⟩:=a2.facts;have HB:Hid (xb<p'/\xb<b'/\g<b'/\xb<g/\p'<w3.heap.size/\b'<w3.heap.size/\p'≠b'/\w0.heap.size<=xb):=⟨by have:=a8.out;omega,by have:=a8.out;omega,by omega,by have:=a8.out;omega,e9,f0,a2.ne,HX.out⟩;have c8:=aA a2;clear d4 x6 a7 y4 d1 d5 z8 z2 j5 j7 e9 f0 a2 j4 k5;obtain ⟨b3,e5⟩:∃ z,z=w3.heap.size:=⟨_,rfl⟩;have h6:=aA e5;clear e5;go_wp2;go_loopw [51] (fun iv wr=>∃ (k:Nat) (bs:List Int) (Q:Pl) (bv:Value),k<=sn/\iv=.int .i64 k/\Hid (True->dF M.P (aS n) k=some (bs,Q))/\dP wr p' b' Q/\aK wr b3 bv bs/\Row wr xb 184 [.int .i64 kd,.int .i64 cl,.int .i64 n,.slice ra rn rc,bv]/\Only [xb,b'] w3 wr) (fun iv _=>sn - (intOf iv).toNat)
   case atStart=>exact ⟨0,[],M.P,.slice none 0 0,by omega,rfl,fun _=>rfl,c8.out,aK.nil _ _,d3.out,Only.refl _ _⟩
   case round=>
    clear c8 d3;obtain ⟨k,bs,Q,bv,hk,rfl,x8,hp,b5,z4,ho⟩:=hrel;have b4:bs.length=k:=(dX OK.out.p (l:=aS n) (fun m hm=>dM _ hm) k (by have:=y0.out;omega) bs Q (x8.out trivial)).len;obtain ⟨ba,bc,e6⟩:=b5.len;rw [b4] at e6;subst e6;have x4:=aA b4;have HP:=aA hp;have x5:=aA b5;have nY:=aA z4;have HO:=aA ho;have c4:wr.cell? ⟨xb,4,none⟩=_:=z4.cell 4 rfl;clear hp b5 z4 ho b4
    by_cases f4:k<sn
    ·have a6:(k:Int)<sn:=by omega
     have n1:(0:Int)<=k:=by omega
     have e8:wr.cell? ⟨g,k,none⟩=some (.int .i64 (gI (aS n) k)):=by
      rcases (j6.out.only HO.out (fun g' h0=>by cases h0;have:=HB.out;simp;omega)).form with ⟨e,_⟩|⟨g',c',e1,_,_,_,h5⟩
      ·cases e
      cases e1;exact h5 k (by have:=y0.out;omega)
     have z9:=aDQ wr p' b' Q HP.out (gI (aS n) k);obtain ⟨c,hc⟩:∃ z,z=gI (aS n) k:=⟨_,rfl⟩;rw [<-hc] at e8 z9;obtain ⟨r,hr⟩:∃ z,z=Q.alloc c:=⟨_,rfl⟩;rw [<-hr] at z9;have HR:=aA hr;have HC:=aA hc;obtain ⟨a1,e1,Q1⟩:=r;clear hr hc c4;go_wp2_with fail;refine z9.mono ?_;rintro e w5 ⟨rfl,z3,x3⟩;have x9:Hid (dP w5 p' b' Q1):=z3;have h8:Hid (Only [xb,b'] w3 w5):=HO.out.trans x3 (fun x hx=>.inl (by simp at hx;simp [hx]));have kG:Hid (Row w5 xb 184 [.int .i64 kd,.int .i64 cl,.int .i64 n,.slice ra rn rc,.slice ba k bc]):=x3.row nY.out (by have:=HB.out;simp;omega);have vH:Hid (aK w5 b3 (.slice ba k bc) bs):=x5.out.only x3 (fun g' h0=>by have:=(x5.out.own g' h0).1;have:=HB.out;have:=h6.out;simp;omega);have c4:w5.cell? ⟨xb,4,none⟩=_:=kG.out.cell 4 rfl;clear z9 z3 x3 e8 nY x5 HO HP
     by_cases he:e1=0
     ·subst he;go_wp2_with (at_builtin;refine bJ rfl _ _ rfl b3 _ _ rfl (vH.out.alloc _) w5.heap.size a1 rfl ?c1 ?c2 ?c3 ?c4)
      case c1=>exact (Row.new w5 _ [_]).cell 0 rfl
      case c2=>have:=x4.out;omega
      case c3=>have:=h8.out.size;have:=h6.out;simp;omega
      case c4=>
       intro v' w6 a4 y1 k2;obtain ⟨h9,x1,f9⟩:=a4.len;obtain ⟨nb,f5⟩:∃ z,z=(bs ++ [a1]).length:=⟨_,rfl⟩;rw [<-f5] at f9;subst f9;clear f5 k2;have x7:∀ x∈(Value.slice ba k bc).ownBlock.toList,b3<=x:=fun x hx=>(vH.out.own x (by simpa using hx)).1;have b9:∀ x∈(Value.slice ba k bc).ownBlock.toList,x<w5.heap.size:=fun x hx=>(vH.out.own x (by simpa using hx)).2;have hB:=HB.out;have k1:=h6.out;have a3:=y1.row (kG.out.alloc (.cells #[.int .i64 a1] 3)) (fun hx=>by have:=x7 _ hx;omega);have f6:=a3.free 4;have c6:w6.cell? ⟨xb,4,none⟩=_:=a3.cell 4 rfl;have i8:Hid (dP (w6.setCell ⟨xb,4,none⟩ (.slice h9 nb x1)) p' b' Q1):=
        (((x9.out.only ((Only.refl [] w5).alloc (.cells #[.int .i64 a1] 3)) (by simp) (by simp)).only y1 (fun hx=>by have:=x7 _ hx;omega) (fun hx=>by have:=x7 _ hx;omega)).only ((Only.refl [xb] w6).set (p:=⟨xb,4,none⟩) (.inl (by simp)) (.slice h9 nb x1)) (by simp;omega) (by simp;omega))
       have j0:Hid (aK (w6.setCell ⟨xb,4,none⟩ (.slice h9 nb x1)) b3 (.slice h9 nb x1) (bs ++ [a1])):=a4.only ((Only.refl [xb] w6).set (p:=⟨xb,4,none⟩) (.inl (by simp)) (.slice h9 nb x1)) (fun g' h0=>by have:=(a4.own g' h0).1;simp;omega);have j1:Hid (Row (w6.setCell ⟨xb,4,none⟩ (.slice h9 nb x1)) xb 184 [.int .i64 kd,.int .i64 cl,.int .i64 n,.slice ra rn rc,(.slice h9 nb x1)]):=a3.set 4 (.slice h9 nb x1);have i6:Hid (Only [xb,b'] w3 (w6.setCell ⟨xb,4,none⟩ (.slice h9 nb x1))):=((h8.out.alloc _).trans y1 (fun x hx=>.inr (by have:=x7 _ hx;omega))).set (.inl (by simp)) _;have j3:Hid (True->dF M.P (aS n) (k+1)=some (bs ++ [a1],Q1)):=fun _=>by
        rw [iV (x8.out trivial),<-HC.out,<-HR.out];rfl
       clear a4 y1 x7 b9 hB k1 a3 x9 h8 kG vH c4 x8;go_wp2;exact ⟨⟨k+1,bs ++ [a1],Q1,(.slice h9 nb x1),by omega,by go_num,j3,i8.out,j0.out,j1.out,i6.out⟩,by simp [intOf];omega⟩
     have d6:Hid (True->M.add o=(0,14,M)):=fun _=>aBY (k:=k+1) (by rw [<-HN.out,<-y0.out];omega) (by
      rw [<-HN.out,iV (x8.out trivial),<-HC.out,<-HR.out];show (if e1=0 then _ else _)=_;rw [if_neg he])
     go_wp2_with fail;refine hR.out _ _ ?_;rw [d6.out trivial];exact vY.none0 H.out (y3.out.trans h8.out (fun x hx=>.inr (by have:=HB.out;have:=y3.out.size;simp at hx;rcases hx with rfl|rfl<;>omega)))
    obtain rfl:k=sn:=by omega
    obtain ⟨g4,k3,e7,m8⟩:∃ g4,ba=some ⟨g4,0,none⟩/\b3<=g4/\k<=bc:=by
     rcases x5.out.form with ⟨e,e2⟩|⟨g4,c',e1,e2,_,e4,_⟩
     ·rw [e2] at x4;have:=x4.out;simp at this;omega
     cases e1;rw [x4.out] at e4;exact ⟨g4,rfl,e2,e4⟩
    subst k3;have i4:=aA e7;have z5:Hid (∀ i,i<k->∀ wx F,Only F wr wx->g4∉F->wx.cell? ⟨g4,i,none⟩=some (.int .i64 (gI bs i))):=fun i hi wx F hox hgf=>by
     rcases x5.out.form with ⟨e,_⟩|⟨g',c',e1,_,_,_,h5⟩
     ·cases e
     cases e1;exact hox.cell (h5 i (by rw [x4.out];exact hi)) hgf
    have b0:=z5.out 0 (by omega) wr [] (Only.refl _ _) (by simp);have d:=iP wr p' b' Q HP.out (gI bs 0) hN;obtain ⟨a0,b1⟩:∃ z,z=gI bs 0:=⟨_,rfl⟩;rw [<-b1] at b0 d;have z6:=aA b1;obtain ⟨r,hr⟩:∃ z,z=Q.setCell a0 hN:=⟨_,rfl⟩;rw [<-hr] at d;have HR:=aA hr;obtain ⟨e1,Q1⟩:=r;clear hr b1 e7;go_wp2_with fail;refine d.mono ?_;rintro e w5 ⟨rfl,z3,x3⟩;have x9:Hid (dP w5 p' b' Q1):=z3;have h8:Hid (Only [xb,b'] w3 w5):=HO.out.trans x3 (fun x hx=>.inl (by simp at hx;simp [hx]));have kG:Hid (Row w5 xb 184 [.int .i64 kd,.int .i64 cl,.int .i64 n,.slice ra rn rc,.slice (some ⟨g4,0,none⟩) k bc]):=x3.row nY.out (by have:=HB.out;simp;omega);have vH:Hid (aK w5 b3 (.slice (some ⟨g4,0,none⟩) k bc) bs):=x5.out.only x3 (fun g' h0=>by have:=(x5.out.own g' h0).1;have:=HB.out;have:=h6.out;simp;omega);have d8:w5.cell? ⟨xb,4,none⟩=_:=kG.out.cell 4 rfl;have m6:0<=a0/\a0<=384:=by
     have s:=dX OK.out.p (l:=aS n) (fun m hm=>dM _ hm) k (by have:=y0.out;omega) bs Q (x8.out trivial);have h1:=(s.new 0 (by omega)).range (dM _ (by have:=y0.out;omega));have h2:=s.n;have h3:=OK.out.n24;rw [<-z6.out] at h1;omega
    have rQ:Hid (∀ i,i<k->∀ wx,Only [b'] w5 wx->wx.cell? ⟨g4,i,none⟩=some (.int .i64 (gI bs i))):=fun i hi wx hox=>by
     rcases vH.out.form with ⟨e,_⟩|⟨g',c',e1,_,_,_,h5⟩
     ·cases e
     cases e1;exact hox.cell (h5 i (by rw [x4.out];exact hi)) (by have:=i4.out;have:=HB.out;have:=h6.out;simp;omega)
    clear d z3 x3 nY x5 HO HP c4 b0 z5
    by_cases d9:bc=1
    ·subst d9;obtain rfl:k=1:=by omega
     go_wp2;go_loopw [81] (fun iv wr=>iv=.int .i64 0/\w5=wr) (fun _ _=>0)
     case atStart=>exact ⟨rfl,rfl⟩
     case round=>
      obtain ⟨rfl,rfl⟩:=hrel;have y6:Hid (Only [xb,b'] w3 w5):=h8;have y7:Hid (dP w5 p' b' (fK Q hN bs)):=by
       show dP _ _ _ (fK Q hN bs);have e:fK Q hN bs=Q1:=by
        unfold fK;rw [x4.out,<-z6.out,<-HR.out];rfl
       rw [e];exact x9.out
      have y8:=kG;have z1:=vH;clear h8 x9 kG vH d8 rQ;generalize b8:w5=w9 at*;clear b8;have y9:Hid (Only [] w0 w9):=y3.out.trans y6.out (fun x hx=>.inr (by have:=HB.out;have:=y3.out.size;simp at hx;rcases hx with rfl|rfl<;>omega))
      have x2:=(H.out.aN y9.out);have e0:=x2.cells.1;have j8:=x2.cells.2.1;have ef:=x2.cells.2.2 0;have h4:=aBZ (w9:=w9) (o:=o) (kd:=kd) (cl:=cl) (n:=n) (rv:=.slice ra rn rc) (T:=184) H.out OK.out (g7.out trivial) (Q:=Q) (bs:=bs) (by
        have:=x8.out trivial;rw [<-HN.out,<-y0.out];exact this) (by rw [<-a5.out trivial];exact y7.out) y9.out y8.out g6.out g3.out HN.out (d7.out.only y6.out (fun g' h0=>by have:=z7.out g' h0;have:=HB.out;simp;omega)) z1.out (by have:=HB.out;omega) z7.out HB.out.1 HB.out.2.1 (by have:=HB.out;have:=h6.out;omega) (by have:=HB.out;have:=h6.out;omega)
      rw [<-a5.out trivial] at h4;obtain ⟨l6,g1,z0⟩:=h4;have a9:=aA z0;clear z0 x2 y7 y8 z1;go_wp2;exact hR.out _ _ a9.out
    have m1:k - 1<7:=by omega
    go_wp2;go_loopw [81] (fun iv wr=>∃ j:Nat,j<=k - 1/\iv=.int .i64 j/\dP wr p' b' (vN Q1 (a0+1) (bs.drop 1) j)/\Only [b'] w5 wr) (fun iv _=>7 - (intOf iv).toNat)
    case atStart=>exact ⟨0,by omega,rfl,x9.out,Only.refl _ _⟩
    case round=>
     obtain ⟨j,hj,rfl,hp,ho⟩:=hrel;have y2:Row wr xb 184 [.int .i64 kd,.int .i64 cl,.int .i64 n,.slice ra rn rc,.slice (some ⟨g4,0,none⟩) k bc]:=ho.row kG.out (by have:=HB.out;simp;omega);have i9:=aA hp;have c7:=aA ho
     by_cases f4:j<k - 1
     ·have f3:=rQ.out (1+j) (by omega) wr ho;have c0:=rQ.out 0 (by omega) wr ho;rw [<-z6.out] at c0;have c9:wr.cell? ⟨xb,4,none⟩=_:=y2.cell 4 rfl;have a6:(j:Int)<((k - 1:Nat):Int):=by omega
      have m7:(0:Int)<=j:=by omega
      have d:=iP wr p' b' _ hp (a0+1+(j:Int)) (gI bs (1+j));have kF:Hid (True->vN Q1 (a0+1) (bs.drop 1) (j+1)=((vN Q1 (a0+1) (bs.drop 1) j).setCell (a0+1+(j:Int)) (gI bs (1+j))).2):=fun _=>by
       show ((vN Q1 (a0+1) (bs.drop 1) j).setCell (a0+1+(j:Int)) (gI (bs.drop 1) j)).2=_;congr 2;unfold gI;rw [List.getElem?_drop]
      generalize (vN Q1 (a0+1) (bs.drop 1) j).setCell (a0+1+(j:Int)) (gI bs (1+j))=r at d kF;obtain ⟨f1,f2⟩:=r;generalize gI bs (1+j)=y at f3 d;clear hp ho y2;go_wp2_with fail;refine d.mono ?_;rintro e w6 ⟨rfl,f7,y1⟩;have i7:Hid (dP w6 p' b' (vN Q1 (a0+1) (bs.drop 1) (j+1))):=by
       show dP _ _ _ _;rw [kF.out trivial];exact f7
      have i5:Hid (Only [b'] w5 w6):=c7.out.trans y1 (fun x hx=>.inl hx);clear f7 y1 d f3 c0 c9;go_wp2;exact ⟨⟨j+1,by omega,by go_num,i7.out,i5.out⟩,by simp [intOf];omega⟩
     have n0:¬ (j:Int)<((k - 1:Nat):Int):=by omega
     have y6:Hid (Only [xb,b'] w3 wr):=h8.out.trans ho (fun x hx=>.inl (by simp at hx;simp [hx]));have y7:Hid (dP wr p' b' (fK Q hN bs)):=by
      show dP _ _ _ (fK Q hN bs);have e:fK Q hN bs=vN Q1 (a0+1) (bs.drop 1) j:=by
       unfold fK;rw [x4.out,<-z6.out,<-HR.out,show k - 1=j by omega]
      rw [e];exact hp
     have y8:Hid (Row wr xb 184 [.int .i64 kd,.int .i64 cl,.int .i64 n,.slice ra rn rc,.slice (some ⟨g4,0,none⟩) k bc]):=y2;have z1:Hid (aK wr b3 (.slice (some ⟨g4,0,none⟩) k bc) bs):=vH.out.only ho (fun g' h0=>by have:=(vH.out.own g' h0).1;have:=HB.out;have:=h6.out;simp;omega);clear h8 x9 kG vH d8 rQ hp ho y2 i9 c7;generalize b8:wr=w9 at*;clear b8;have y9:Hid (Only [] w0 w9):=y3.out.trans y6.out (fun x hx=>.inr (by have:=HB.out;have:=y3.out.size;simp at hx;rcases hx with rfl|rfl<;>omega))
     have x2:=(H.out.aN y9.out);have e0:=x2.cells.1;have j8:=x2.cells.2.1;have ef:=x2.cells.2.2 0;have h4:=aBZ (w9:=w9) (o:=o) (kd:=kd) (cl:=cl) (n:=n) (rv:=.slice ra rn rc) (T:=184) H.out OK.out (g7.out trivial) (Q:=Q) (bs:=bs) (by
       have:=x8.out trivial;rw [<-HN.out,<-y0.out];exact this) (by rw [<-a5.out trivial];exact y7.out) y9.out y8.out g6.out g3.out HN.out (d7.out.only y6.out (fun g' h0=>by have:=z7.out g' h0;have:=HB.out;simp;omega)) z1.out (by have:=HB.out;omega) z7.out HB.out.1 HB.out.2.1 (by have:=HB.out;have:=h6.out;omega) (by have:=HB.out;have:=h6.out;omega)
     rw [<-a5.out trivial] at h4;obtain ⟨l6,g1,z0⟩:=h4;have a9:=aA z0;clear z0 x2 y7 y8 z1;go_wp2;exact hR.out _ _ a9.out
end
end Go.Proofs.YthflghdaejbdkaaGreat
