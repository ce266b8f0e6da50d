/- Lemmas of this claim. -/
import Derived.Test.YthflghdaejbdkaaGreatXdMkP
namespace Go.Proofs.YthflghdaejbdkaaGreat
open _root_.Go.Proofs.Tryz (prog)
open Go.RowKit Go.Maps
set_option maxHeartbeats 6400000
set_option maxRecDepth 100000
set_option linter.unusedVariables false
theorem kX (w:World) {L:Nat->Option Gb} {q:Nat} {M:Hp} {X:GX} (h:bF w L q M X) (hk:M.Ok) (x:Int):Calls prog 58 #[.pointer (some ⟨q,0,none⟩),.int .i64 x] w (fun e w'=>e=.returned (.bool (M.ob x).isSome)/\Only [] w w'):=by
 refine aF fun R hR=>?_;have c:=xX w h hk x;have he:=aEw M x;clear h hk;generalize (M.type x).1=a1 at*;generalize (M.type x).2.1=a2 at*;generalize (M.type x).2.2.1=a3 at*;rw [he] at c;clear he
 cases hs:(M.ob x).isSome with
 | true=>
  rw [hs] at c hR;replace c:Calls prog _ _ _ (fun e w'=>e=.returned (.tuple #[.int .i64 a1,.int .i64 a2,.int .i64 a3,.int .i64 0])/\Only [] w w'):=c;go_in;go_wp2_with fail;refine c.mono ?_;rintro e w1 ⟨rfl,ho⟩;have HO:=aA ho;clear c ho;go_wp2_with fail;exact hR.out _ _ ⟨rfl,HO.out⟩
 | false=>
  rw [hs] at c hR;replace c:Calls prog _ _ _ (fun e w'=>e=.returned (.tuple #[.int .i64 a1,.int .i64 a2,.int .i64 a3,.int .i64 3])/\Only [] w w'):=c;go_in;go_wp2_with fail;refine c.mono ?_;rintro e w1 ⟨rfl,ho⟩;have HO:=aA ho;clear c ho;go_wp2_with fail;exact hR.out _ _ ⟨rfl,HO.out⟩
section
variable {w0 w:World} {l:List Asn} {i j q r:Nat} {m:Mk}
theorem RL.gh (T2:fZ l i j) (hf:Fam w0 w (RL l i j q r m)):m.M.Ok/\∃ L X,bF w L q m.M X:=hf.gh i (RL.heap T2)
theorem RL.lives (T2:fZ l i j) (hf:Fam w0 w (RL l i j q r m)) (x:Int):Calls prog 58 #[.pointer (some ⟨q,0,none⟩),.int .i64 x] w (fun e w'=>e=.returned (.bool (m.M.ob x).isSome)/\Fam w0 w' (RL l i j q r m)):=by
 obtain ⟨hk,L,X,hg⟩:=RL.gh T2 hf;exact (kX w hg hk x).mono fun e w' ⟨h1,h2⟩=>⟨h1,hf.aN h2⟩
theorem aDd.cells {tg tc:Nat} {v:Value} {T:List Int} {col:Int->Int} {list:List Int} (h:aDd w r q tg tc v T col list):w.cell? ⟨r,0,none⟩=some (.pointer (some ⟨q,0,none⟩))/\w.cell? ⟨r,1,none⟩=some (.slice (some ⟨tg,0,none⟩) 193 tc)/\w.cell? ⟨r,2,none⟩=some v/\∀ k,w.frozen? ⟨r,k,none⟩=false:=by
 obtain ⟨U,hr⟩:=h.row;exact ⟨hr.cell 0 rfl,hr.cell 1 rfl,hr.cell 2 rfl,fun k=>hr.free k⟩
theorem aDd.aBC {tg tc:Nat} {v:Value} {T:List Int} {col:Int->Int} {list:List Int} (h:aDd w r q tg tc v T col list) {y:Nat} (hy:y<193):w.cell? ⟨tg,y,none⟩=some (.int .i64 (col y))/\w.frozen? ⟨tg,y,none⟩=false:=by
 obtain ⟨_,_,cs,hr,_⟩:=h.tint.row;refine ⟨?_,hr.free y⟩;rcases h.tint.form with ⟨e,_⟩|⟨g,cap,e,_,_,_,hc⟩
 ·cases e
 simp only [Value.slice.injEq,Option.some.injEq,Addr.mk.injEq] at e;obtain ⟨⟨rfl,_⟩,_,_⟩:=e;rw [<-h.tv y hy];exact hc y (by rw [h.tl];exact hy)
theorem iH (w:World) (T2:fZ l i j) (hf:Fam w0 w (RL l i j q r m)) (hm:m.Ok) (x:Int):Calls prog 159 #[.pointer (some ⟨r,0,none⟩),.int .i64 x] w (fun e w'=>e=.returned (.tuple #[])/\Fam w0 w' (RL l i j q r (m.bH x))):=by
 refine aF fun R hR=>?_;obtain ⟨tg,tc,v,T,hg⟩:=RL.mk T2 hf;obtain ⟨z0,_,_,_⟩:=hg.cells;have HF:=aA hf;have HM:=aA hm
 by_cases hx0:x=0
 ·have hsh:m.bH x=m:=by unfold Mk.bH;rw [if_neg (fun h=>(Mk.kG.1 h).1 hx0)]
  rw [hsh] at hR;subst hx0;clear hf hm hg hsh;go_in;go_wp2_with fail;go_end0;exact hR.out _ _ ⟨rfl,HF.out⟩
 have hx1:(x != 0)=true:=by simpa using hx0
 have c:=RL.lives T2 hf x;clear hf hm hg;go_in;go_wp2_with fail;refine c.mono ?_;rintro e w1 ⟨rfl,hf⟩;have HF1:=aA hf;obtain ⟨tg,tc,v,T,hg,ht⟩:=RL.mkT T2 hf;have HT:=aA ht;have HG:=aA hg;obtain ⟨z0,z1,z2,zf⟩:=hg.cells;clear c hf hg HF ht
 cases hs:(m.M.ob x).isSome with
 | false=>
  have hsh:m.bH x=m:=by unfold Mk.bH;rw [if_neg (fun h=>by have:=(Mk.kG.1 h).2.1;rw [hs] at this;cases this)]
  rw [hsh] at hR;clear hsh hs;go_wp2_with fail;go_end0;exact hR.out _ _ ⟨rfl,HF1.out⟩
 | true=>
  obtain ⟨h1,h2⟩:=HM.out.hf.ok.inR hs;obtain ⟨y,hy⟩:∃ y:Nat,x=(y:Int):=⟨x.toNat,by omega⟩;subst hy;have hyn:y<193:=by omega
  have hy0:(0:Int)<=(y:Int):=by omega
  have hy1:(y:Int)<193:=by omega
  obtain ⟨t0,tf⟩:=HG.out.aBC hyn
  by_cases hc:m.col (y:Int)=0
  ·have hsh:m.bH (y:Int)=⟨m.M,jM m.col y 1,m.list ++ [(y:Int)]⟩:=by unfold Mk.bH;rw [if_pos (Mk.kG.2 ⟨hx0,hs,hc⟩)]
   rw [hsh] at hR;rw [hc] at t0;clear hsh hs hc h1 h2;have HO2:Hid (Only [tg] w1 (w1.setCell ⟨tg,y,none⟩ (.int .i64 1))):=(Only.refl [tg] w1).set (.inl (by simp)) _;have aJR:=HG.out.ne;have HNE:=aA aJR;have HI2:Hid (aO (w1.setCell ⟨tg,y,none⟩ (.int .i64 1)) 0 v m.list):=HG.out.ints.only HO2.out (fun k hk=>by have:=(HG.out.ne2 k hk).2;simpa using this);have aSU:Hid (aO (w1.setCell ⟨tg,y,none⟩ (.int .i64 1)) 0 (.slice (some ⟨tg,0,none⟩) 193 tc) (T.set y 1)):=HG.out.tint.setAt y 1;have HTL:Hid ((T.set y 1).length=193/\∀ k:Nat,k<193->gI (T.set y 1) k=jM m.col (y:Int) 1 k):=⟨by rw [List.length_set];exact HG.out.tl,fun k hk=>by
    rw [qY (by rw [HG.out.tl];exact hyn)]
    by_cases e:k=y
    ·rw [if_pos e,e,bZ]
    rw [if_neg e,bG _ _ (show (k:Int)≠(y:Int) by omega)];exact HG.out.tv k hk⟩
   have HR2:Hid (∃ U,Row (w1.setCell ⟨tg,y,none⟩ (.int .i64 1)) r U [.pointer (some ⟨q,0,none⟩),.slice (some ⟨tg,0,none⟩) 193 tc,v]):=HG.out.row.imp fun U x=>HO2.out.row x (by simpa using aJR);have z2':(w1.setCell ⟨tg,y,none⟩ (.int .i64 1)).cell? ⟨r,2,none⟩=some v:=HO2.out.cell z2 (by simpa using aJR);have HLE:=aA HM.out.len;have HOWN:=aA HG.out.ne2;have hpl:r<w1.heap.size:=by obtain ⟨U,hr⟩:=HG.out.row;exact hr.lt
   have HPL:=aA hpl;have htl:tg<w1.heap.size:=(HG.out.tint.own tg rfl).2;have aMs:=aA htl;have HSZ:Hid ((w1.setCell ⟨tg,y,none⟩ (.int .i64 1)).heap.size=w1.heap.size):=by show _=_;simp
   clear aJR hpl htl;go_wp2_with (at_builtin;refine bI rfl _ _ rfl 0 _ _ rfl (HI2.out.alloc _) w1.heap.size (y:Int) rfl ?c1 ?c2 ?c3 ?c4)
   case c1=>
    have h7:=(Row.new (w1.setCell ⟨tg,y,none⟩ (.int .i64 1)) 3 [.int .i64 (y:Int)]).cell 0 rfl;rw [HSZ.out] at h7;exact h7
   case c2=>have:=HLE.out;omega
   case c3=>simp
   case c4=>
    intro v' w3 hq3 ho3 hb3;obtain ⟨va,vc,rfl⟩:=hq3.len;generalize w1.setCell ⟨tg,y,none⟩ (.int .i64 1)=w2 at*;have hnot:r∉v.ownBlock.toList:=fun hm'=>by
     cases e:v.ownBlock with
     | none=>rw [e] at hm';simp at hm'
     | some g=>rw [e] at hm';simp at hm';exact (HOWN.out g e).1 hm'.symm
    have aCt:tg∉v.ownBlock.toList:=fun hm'=>by
     cases e:v.ownBlock with
     | none=>rw [e] at hm';simp at hm'
     | some g=>rw [e] at hm';simp at hm';exact (HOWN.out g e).2 hm'.symm
    have hrow3:∃ U,Row w3 r U [.pointer (some ⟨q,0,none⟩),.slice (some ⟨tg,0,none⟩) 193 tc,v]:=HR2.out.imp fun U x=>ho3.row (x.alloc _) hnot;have hcell:w3.cell? ⟨r,2,none⟩=some v/\w3.frozen? ⟨r,2,none⟩=false:=by
     obtain ⟨U,x⟩:=hrow3;exact ⟨x.cell 2 rfl,x.free 2⟩
    obtain ⟨z3,zf3⟩:=hcell;have hnew:∀ g,(Value.slice va (m.list ++ [(y:Int)]).length vc).ownBlock=some g->v.ownBlock=some g\/w2.heap.size<=g:=fun g hg=>by
     rcases hb3 with e|e
     ·exact .inl (e.symm.trans hg)
     right;rw [e] at hg;simp at hg;have:=HSZ.out;omega
    have hne2:∀ g,(Value.slice va (m.list ++ [(y:Int)]).length vc).ownBlock=some g->g≠r/\g≠tg:=fun g hg=>by
     rcases hnew g hg with e|e
     ·exact HOWN.out g e
     have q1:=HO2.out.size;have q2:=HPL.out;have q3:=aMs.out;exact ⟨by omega,by omega⟩
    have hs4:Only [r] w3 (w3.setCell ⟨r,2,none⟩ (Value.slice va (m.list ++ [(y:Int)]).length vc)):=(Only.refl [r] w3).set (.inl (by simp)) _;have hP:aI (fun k=>k=r\/k=tg\/v.ownBlock=some k) w1 (w3.setCell ⟨r,2,none⟩ (Value.slice va (m.list ++ [(y:Int)]).length vc)):=by
     have p1:aI (fun k=>k=r\/k=tg\/v.ownBlock=some k) w1 (w2.alloc (.cells #[.int .i64 (y:Int)] 3)):=(HO2.out.toP (fun z hz=>.inl (.inr (.inl (by simpa using hz))))).alloc _;refine (p1.trans (ho3.toP (S:=fun k=>v.ownBlock=some k) (fun z hz=>.inl (by
      cases e:v.ownBlock with
      | none=>rw [e] at hz;simp at hz
      | some g=>rw [e] at hz;simp at hz;rw [hz]))) (fun z hz=>.inl (.inr (.inr hz)))).set (.inl (.inl rfl)) _
    have HFN:Hid (Fam w0 (w3.setCell ⟨r,2,none⟩ (Value.slice va (m.list ++ [(y:Int)]).length vc)) (RL l i j q r ⟨m.M,jM m.col y 1,m.list ++ [(y:Int)]⟩)):=
     HT.out _ tg tc _ _ _ _ ⟨hrow3.imp fun U y=>y.set 2 _,((aSU.out.alloc _).only ho3 (fun k hk=>by cases hk;exact aCt)).only hs4 (fun k hk=>by cases hk;simpa using Ne.symm HNE.out),HTL.out.1,HTL.out.2,hq3.only hs4 (fun k hk=>by have:=(hne2 k hk).1;simpa using this),HNE.out,hne2⟩ (.inl rfl)
      (fun g hg=>(hnew g hg).imp id (fun y=>Nat.le_trans HO2.out.size y)) hP
    generalize (m.list ++ [(y:Int)]).length=qn at*;clear hq3 ho3 hb3 hnot aCt hrow3 hnew hne2 hs4 hP;go_wp2_with fail;go_end0;exact hR.out _ _ ⟨rfl,HFN.out⟩
  have hsh:m.bH (y:Int)=m:=by unfold Mk.bH;rw [if_neg (fun h=>hc (Mk.kG.1 h).2.2)]
  rw [hsh] at hR;have hcb:(m.col (y:Int) == 0)=false:=by simpa using hc
  clear hsh hs h1 h2;go_wp2_with fail;go_end0;exact hR.out _ _ ⟨rfl,HF1.out⟩
end
section
variable {w0 w:World} {l:List Asn} {i j q r:Nat} {m:Mk}
theorem aIW (w:World) (T2:fZ l i j) (hf:Fam w0 w (RL l i j q r m)):Calls prog 157 #[.pointer (some ⟨r,0,none⟩)] w (aK w (.tuple #[.int .i64 m.next.1,.int .i64 m.next.2])):=by
 refine aF fun R hR=>?_;obtain ⟨tg,tc,v,T,hg⟩:=RL.mk T2 hf;obtain ⟨z0,z1,z2,_⟩:=hg.cells;have hi:=hg.ints;clear hf hg;unfold Mk.next at hR
 cases e:m.list with
 | nil=>
  rw [e] at hi hR;obtain ⟨a,c,rfl⟩:=hi.len;clear hi;replace z2:w.cell? ⟨r,2,none⟩=some (.slice a 0 c):=z2;go_in;go_wp2_with fail;exact hR.out _ _ ⟨rfl,rfl⟩
 | cons x t=>
  rw [e] at hi hR;obtain ⟨a,c,rfl⟩:=hi.len;obtain ⟨b,o,rfl,hc⟩:=hi.read.at (k:=0) (by simp);rw [Nat.add_zero] at hc;replace hc:w.cell? ⟨b,o,none⟩=some (.int .i64 x):=hc;replace z2:w.cell? ⟨r,2,none⟩=some (.slice (some ⟨b,o,none⟩) (t.length+1) c):=z2;generalize t.length=n at*;clear hi;have hn1:((n:Int)+1 == 0)=false:=by rw [beq_eq_false_iff_ne];omega
  have hn2:(0:Int)<(n:Int)+1:=by omega
  go_in;go_wp2_with fail;exact hR.out _ _ ⟨rfl,rfl⟩
theorem jT (w:World) (T2:fZ l i j) (hf:Fam w0 w (RL l i j q r m)):Calls prog 71 #[.pointer (some ⟨r,0,none⟩)] w (aK w (.bool (decide (m.list=[])))):=by
 refine aF fun R hR=>?_;obtain ⟨tg,tc,v,T,hg⟩:=RL.mk T2 hf;obtain ⟨z0,z1,z2,_⟩:=hg.cells;have hi:=hg.ints;clear hf hg
 cases e:m.list with
 | nil=>
  rw [e] at hi hR;obtain ⟨a,c,rfl⟩:=hi.len;clear hi;replace z2:w.cell? ⟨r,2,none⟩=some (.slice a 0 c):=z2;go_in;go_wp2_with fail;exact hR.out _ _ ⟨rfl,rfl⟩
 | cons x t=>
  rw [e] at hi hR;obtain ⟨a,c,rfl⟩:=hi.len;clear hi;replace z2:w.cell? ⟨r,2,none⟩=some (.slice a (t.length+1) c):=z2;replace hR:Hid (∀ e w',aK w (.bool false) e w'->R e w'):=hR;generalize t.length=n at*;have hn1:((n:Int)+1 == 0)=false:=by rw [beq_eq_false_iff_ne];omega
  go_in;go_wp2_with fail;exact hR.out _ _ ⟨rfl,rfl⟩
theorem aAj (w:World) (T2:fZ l i j) (hf:Fam w0 w (RL l i j q r m)) (x:Int):Calls prog 216 #[.pointer (some ⟨r,0,none⟩),.int .i64 x] w (fun e w'=>e=.returned (.tuple #[.int .i64 (m.color x).1,.int .i64 (m.color x).2])/\Only [] w w'):=by
 refine aF fun R hR=>?_;obtain ⟨tg,tc,v,T,hg⟩:=RL.mk T2 hf;obtain ⟨z0,z1,z2,_⟩:=hg.cells;obtain ⟨hk,L,X,hp⟩:=RL.gh T2 hf;have hu:=kX w hp hk x;have HG:=aA hg;have HK:=aA hk;unfold Mk.color at hR;clear hf hg hp hk
 cases hs:(m.M.ob x).isSome with
 | true=>
  have hin:=HK.out.inR hs;obtain ⟨y,hy⟩:∃ y:Nat,x=(y:Int):=⟨x.toNat,by omega⟩;subst hy;have hyn:y<193:=by omega
  have hy0:(0:Int)<=(y:Int):=by omega
  have hy1:(y:Int)<193:=by omega
  rw [hs] at hu hR;clear hin;go_in;go_wp2_with fail;refine hu.mono ?_;rintro e w1 ⟨rfl,ho⟩;have HO:=aA ho;have h1:=ho.cell (HG.out.aBC hyn).1 (by simp);have h2:=ho.cell z1 (by simp);clear hu ho;go_wp2_with fail;exact hR.out _ _ ⟨rfl,HO.out⟩
 | false=>
  rw [hs] at hu hR;go_in;go_wp2_with fail;refine hu.mono ?_;rintro e w1 ⟨rfl,ho⟩;have HO:=aA ho;clear hu ho;go_wp2_with fail;exact hR.out _ _ ⟨rfl,HO.out⟩
theorem aAh (w:World) (T2:fZ l i j) (hf:Fam w0 w (RL l i j q r m)) (hm:m.Ok) (x:Int):Calls prog 150 #[.pointer (some ⟨r,0,none⟩),.int .i64 x] w (fun e w'=>e=.returned (.int .i64 (m.jL x))/\Fam w0 w' (RL l i j q r (m.bH x))):=by
 refine aF fun R hR=>?_;obtain ⟨tg,tc,v,T,hg⟩:=RL.mk T2 hf;obtain ⟨z0,z1,z2,_⟩:=hg.cells;have HF:=aA hf;have HM:=aA hm
 by_cases hx0:x=0
 ·have he:m.jL x=0:=by unfold Mk.jL;rw [if_neg (fun h=>h.1 hx0)]
  rw [he] at hR;have cs:=iH w T2 hf hm x;clear hf hg hm he;subst hx0;go_in;go_wp2_with fail;refine cs.mono ?_;rintro e w1 ⟨rfl,hf⟩;have HF1:=aA hf;clear hf cs;go_wp2_with fail;exact hR.out _ _ ⟨rfl,HF1.out⟩
 have hx1:(x != 0)=true:=by simpa using hx0
 have hu:=RL.lives T2 hf x
 cases hs:(m.M.ob x).isSome with
 | true=>
  have he:m.jL x=0:=by unfold Mk.jL;rw [if_neg (fun h=>by have:=h.2;rw [hs] at this;cases this)]
  rw [he] at hR;rw [hs] at hu;clear hf hg hm he;go_in;go_wp2_with fail;refine hu.mono ?_;rintro e w1 ⟨rfl,hf⟩;have cs:=iH w1 T2 hf HM.out x;clear hf hu;go_wp2_with fail;refine cs.mono ?_;rintro e w2 ⟨rfl,hf⟩;have HF1:=aA hf;clear hf cs;go_wp2_with fail;exact hR.out _ _ ⟨rfl,HF1.out⟩
 | false=>
  have he:m.jL x=3:=by unfold Mk.jL;rw [if_pos ⟨hx0,hs⟩]
  have hsh:m.bH x=m:=by unfold Mk.bH;rw [if_neg (fun h=>by have:=(Mk.kG.1 h).2.1;rw [hs] at this;cases this)]
  rw [he,hsh] at hR;rw [hs] at hu;clear hf hg hm he hsh;go_in;go_wp2_with fail;refine hu.mono ?_;rintro e w1 ⟨rfl,hf⟩;have HF1:=aA hf;clear hf hu;go_wp2_with fail;exact hR.out _ _ ⟨rfl,HF1.out⟩
end
theorem RL.app {l:List Asn} {i j q r:Nat} {m:Mk} (h:fZ l i j) (A:Asn):RL (l ++ [A]) i j q r m=RL l i j q r m ++ [A]:=by
 unfold RL;rw [List.set_append_left _ _ h.hi,List.set_append_left _ _ (by rw [List.length_set];exact h.hj)]
theorem RL.at {l:List Asn} {i j q r:Nat} {m:Mk} {A:Asn} (h:fZ l i j):(RL (l ++ [A]) i j q r m)[l.length]?=some A:=by
 rw [RL.app h];have:(RL l i j q r m).length=l.length:=by unfold RL;simp
 rw [<-this];simp
section
variable {w0 w:World} {l:List Asn} {i j q r:Nat} {m:Mk}
theorem aCz (w:World) (T2:fZ l i j) (hf:Fam w0 w (RL l i j q r m)) (hm:m.Ok):Calls prog 72 #[.pointer (some ⟨r,0,none⟩)] w (fun e w'=>e=.returned (.tuple #[.int .i64 m.step.1,.int .i64 m.step.2.1])/\Fam w0 w' (RL l i j q r m.step.2.2)):=by
 refine aF fun R hR=>?_;have cn:=aIW w T2 hf;have hnx:m.next=(m.step.1,m.step.2.1):=by unfold Mk.next Mk.step;cases m.list<;>rfl
 rw [hnx] at cn
 cases e:m.list with
 | nil=>
  have hs:m.step=(0,3,m):=by unfold Mk.step;rw [e]
  rw [hs] at cn hR;have HF:=aA hf;clear hf hm hnx hs e;go_in;go_wp2_with fail;refine cn.mono ?_;rintro e _ ⟨rfl,rfl⟩;go_wp2_with fail;exact hR.out _ _ ⟨rfl,HF.out⟩
 | cons x0 t=>
  have hs:m.step=(x0,0,m.dV x0):=by unfold Mk.step;rw [e]
  rw [hs] at cn hR;have aPv:=hm.inR (x:=x0) (by rw [e];simp);obtain ⟨x,hx⟩:∃ x:Nat,x0=(x:Int):=⟨x0.toNat,by omega⟩;subst hx;obtain ⟨tg,tc,v,T,hg,ht⟩:=RL.mkT T2 hf;have HM:=aA hm;obtain ⟨z0,z1,z2,zf⟩:=hg.cells;have hi:=hg.ints;rw [e] at hi;obtain ⟨a,c,rfl⟩:=hi.len;obtain ⟨b,o,rfl,hc⟩:=hi.read.at (k:=0) (by simp);replace z2:w.cell? ⟨r,2,none⟩=some (.slice (some ⟨b,o,none⟩) (t.length+1) c):=z2;have hcap:t.length+1<=c:=by
   rcases hi.form with ⟨h1,_⟩|⟨g,cap,h1,_,_,h3,_⟩
   ·cases h1
   simp only [Value.slice.injEq] at h1;obtain ⟨_,_,rfl⟩:=h1;exact h3
  have HRD:Hid (∀ k,k<t.length->w.cell? ⟨b,o+(k+1),none⟩=some (.int .i64 (gI t k))):=fun k hk=>by
   obtain ⟨b2,o2,e2,h4⟩:=hi.read.at (k:=k+1) (by simp;omega)
   cases e2
   rw [h4];simp [gI]
  have aRh:Hid (t.length<=192):=by have:=hm.len;rw [e] at this;simp at this;show _<=_;omega
  obtain ⟨hok1,hst1⟩:=hm.rest e;have HK1:=aA hok1;have aPF:=aA hst1;have HXN:Hid (x<193):=by show _<_;omega
  have HPL:Hid (r<w.heap.size):=by obtain ⟨U,hr⟩:=hg.row;exact hr.lt
  have aMs:Hid (tg<w.heap.size):=(hg.tint.own tg rfl).2;have aHk:Hid (∃ U,Row w r U [.pointer (some ⟨q,0,none⟩),.slice (some ⟨tg,0,none⟩) 193 tc,.slice (some ⟨b,o,none⟩) (t.length+1) c]):=hg.row;have HT2:Hid (∀ (w':World) (v':Value) (T':List Int) (c:Int->Int) (t:List Int),aDd w' r q tg tc v' T' c t->(∀ g,v'.ownBlock=some g->w.heap.size<=g)->aI (fun k=>k=r\/k=tg\/some b=some k) w w'->Fam w0 w' (RL l i j q r ⟨m.M,c,t⟩)):=fun w' v' T' c t h1 h2 h3=>ht w' tg tc v' T' c t h1 (.inl rfl) (fun g hg=>.inr (h2 g hg)) h3;have aPd:=aA hg.tint;have HTL:=aA hg.tl;have HTV:=aA hg.tv;have HNE:=aA hg.ne;have hx0:(0:Int)<=(x:Int):=by omega
  have hx1:(x:Int)<193:=by omega
  clear hf hm hnx hs e hg ht hi hc hok1 hst1 aPv
  by_cases hc1:c=1
  ·subst hc1;have htn:t.length=0:=by omega
   have HTN:Hid (t.length=0):=htn;rw [htn] at z2 aHk;replace z2:w.cell? ⟨r,2,none⟩=some (.slice (some ⟨b,o,none⟩) 1 1):=z2;clear hcap htn;go_in;go_wp2_with fail;refine cn.mono ?_;rintro e _ ⟨rfl,rfl⟩;go_wp2_with (at_builtin;refine fU rfl _ _ rfl w.heap.size _ [] rfl (aO.nil _ _) ⟨b,o,none⟩ 0 _ t rfl ?c1 ?c2 ?c3 ?c4 ?c5)
   case c1=>exact HTN.out
   case c2=>
    intro k u hu;have hk:k<t.length:=(List.getElem?_eq_some_iff.1 hu).1;have h7:=HRD.out k hk;have:=HTN.out;omega
   case c3=>simp
   case c4=>simp
   case c5=>
    intro v1 w1 hi1 ho1 _ _;replace hi1:aO w1 w.heap.size v1 t:=hi1;replace ho1:Only [] w w1:=ho1;have HI1:=aA hi1;have HO1:=aA ho1;have hrow1:∃ U,Row w1 r U [.pointer (some ⟨q,0,none⟩),.slice (some ⟨tg,0,none⟩) 193 tc,.slice (some ⟨b,o,none⟩) (0+1) 1]:=aHk.out.imp fun U x=>ho1.row x (by simp);have hz:w1.cell? ⟨r,2,none⟩=some (.slice (some ⟨b,o,none⟩) (0+1) 1)/\w1.frozen? ⟨r,2,none⟩=false:=by
     obtain ⟨U,x⟩:=hrow1;exact ⟨x.cell 2 rfl,x.free 2⟩
    obtain ⟨y2,yf⟩:=hz;have HV1:Hid (∀ g,v1.ownBlock=some g->w.heap.size<=g/\g<w1.heap.size):=fun g hg=>hi1.own g hg;have hs2:Only [r] w1 (w1.setCell ⟨r,2,none⟩ v1):=(Only.refl [r] w1).set (.inl (by simp)) _;have hrow2:∃ U,Row (w1.setCell ⟨r,2,none⟩ v1) r U [.pointer (some ⟨q,0,none⟩),.slice (some ⟨tg,0,none⟩) 193 tc,v1]:=hrow1.imp fun U y=>y.set 2 _;have ht2:aO (w1.setCell ⟨r,2,none⟩ v1) 0 (.slice (some ⟨tg,0,none⟩) 193 tc) T:=(aPd.out.only ho1 (by simp)).only hs2 (fun k hk=>by cases hk;simpa using Ne.symm HNE.out);have hi2:aO (w1.setCell ⟨r,2,none⟩ v1) 0 v1 t:=(hi1.base (Nat.zero_le _)).only hs2 (fun k hk=>by have:=HV1.out k hk;have:=HPL.out;simp;omega);have t0:(w1.setCell ⟨r,2,none⟩ v1).frozen? ⟨tg,x,none⟩=false/\∃ z,(w1.setCell ⟨r,2,none⟩ v1).cell? ⟨tg,x,none⟩=some z:=by
     obtain ⟨_,_,cs,hr,_⟩:=ht2.row;refine ⟨hr.free x,?_⟩;rcases ht2.form with ⟨e,_⟩|⟨g,cap,e,_,_,_,hc⟩
     ·cases e
     simp only [Value.slice.injEq,Option.some.injEq,Addr.mk.injEq] at e;obtain ⟨⟨rfl,_⟩,_,_⟩:=e;exact ⟨_,hc x (by rw [HTL.out];exact HXN.out)⟩
    obtain ⟨tf,tz,t0⟩:=t0;have z1':(w1.setCell ⟨r,2,none⟩ v1).cell? ⟨r,1,none⟩=some (.slice (some ⟨tg,0,none⟩) 193 tc):=by
     obtain ⟨U,x⟩:=hrow2;exact x.cell 1 rfl
    have hs3:Only [tg] (w1.setCell ⟨r,2,none⟩ v1) ((w1.setCell ⟨r,2,none⟩ v1).setCell ⟨tg,x,none⟩ (.int .i64 2)):=(Only.refl [tg] _).set (.inl (by simp)) _;have aIQ:aDd ((w1.setCell ⟨r,2,none⟩ v1).setCell ⟨tg,x,none⟩ (.int .i64 2)) r q tg tc v1 (T.set x 2) (jM m.col x 2) t:=⟨hrow2.imp fun U y=>hs3.row y (by simpa using HNE.out),ht2.setAt x 2,by rw [List.length_set];exact HTL.out,fun k hk=>by
     rw [qY (by rw [HTL.out];exact HXN.out)]
     by_cases e:k=x
     ·rw [if_pos e,e,bZ]
     rw [if_neg e,bG _ _ (show (k:Int)≠(x:Int) by omega)];exact HTV.out k hk,hi2.only hs3 (fun k hk=>by have:=HV1.out k hk;have:=aMs.out;simp;omega),HNE.out,fun g hg=>by have:=HV1.out g hg;have:=HPL.out;have:=aMs.out;exact ⟨by omega,by omega⟩⟩
    have hP:aI (fun k=>k=r\/k=tg\/some b=some k) w ((w1.setCell ⟨r,2,none⟩ v1).setCell ⟨tg,x,none⟩ (.int .i64 2)):=((ho1.vW (S:=fun k=>k=r\/k=tg\/some b=some k)).trans (hs2.toP (S:=fun k=>k=r) (fun z hz=>.inl (by simpa using hz))) (fun z hz=>.inl (.inl hz))).trans (hs3.toP (S:=fun k=>k=tg) (fun z hz=>.inl (by simpa using hz))) (fun z hz=>.inl (.inr (.inl hz)));have hf3:=HT2.out _ v1 _ _ _ aIQ (fun g hg=>(HV1.out g hg).1) hP;have HF3:=aA hf3;obtain ⟨q0,q1,q2,qf⟩:=aIQ.cells;obtain ⟨hk3,L3,X3,hp3⟩:=RL.gh T2 hf3;have cr:=xZ _ hp3 hk3 x;obtain ⟨va,vc,rfl⟩:=hi1.len;clear hrow1 hs2 hrow2 ht2 hi2 hs3 aIQ hP hf3 hp3 hk3 hi1 ho1;generalize t.length=n1 at*;go_wp2_with fail;refine cr.mono ?_;rintro e w4 ⟨vr,rfl,hi4,ho4⟩;have HF4:Hid (Fam w0 w4 (RL (l ++ [dQ vr (m.M.refs x).1]) i j q r ⟨m.M,jM m.col x 2,t⟩)):=by
     show Fam _ _ _;rw [RL.app T2];exact HF3.out.jG ho4 hi4
    obtain ⟨ra,rc,rfl⟩:=hi4.len;obtain ⟨rn,hrn⟩:∃ z,z=(m.M.refs x).1.length:=⟨_,rfl⟩;have HRN:=aA hrn;have hrl:=qE HM.out.hf.ok (x:Int);rw [<-hrn] at hrl HF4 ⊢;clear cr hi4 ho4 hrn y2 yf t0 tf z1' q0 q1 q2 qf;go_wp2_with fail;go_loopw [8] (fun iv wr=>∃ k:Nat,k<=rn/\iv=.int .i64 k/\Fam w0 wr (RL (l ++ [dQ (.slice ra rn rc) (m.M.refs x).1]) i j q r ((⟨m.M,jM m.col x 2,t⟩:Mk).bC ((m.M.refs x).1.take k)))) (fun iv _=>rn - (intOf iv).toNat)
    case atStart=>exact ⟨0,by omega,rfl,HF4.out⟩
    case round=>
     clear HF4;obtain ⟨k,hk,rfl,hf⟩:=hrel;have HF:=aA hf;clear hf
     by_cases hlt:k<rn
     ·have hlt1:(k:Int)<rn:=by omega
      have hk0:(0:Int)<=k:=by omega
      have hkl:k<(m.M.refs x).1.length:=by rw [<-HRN.out];exact hlt
      obtain ⟨b4,o4,rfl,hc⟩:=(HF.out.ints l.length (RL.at T2)).read.at hkl;have cs:=iH wr (T2.app _) HF.out (Mk.Ok.bC _ _ HK1.out) (gI (m.M.refs x).1 k);rw [<-lH hkl] at cs;clear hkl;generalize gI (m.M.refs x).1 k=y at*;go_wp2_with fail;refine cs.mono ?_;rintro e w5 ⟨rfl,hf⟩;have HF5:=aA hf;clear cs hf hc HF;go_wp2_with fail;exact ⟨⟨k+1,by omega,by go_num,HF5.out⟩,by simp [intOf];omega⟩
     obtain rfl:k=rn:=by omega
     have hlt1:¬ (k:Int)<(k:Int):=by omega
     have HE:Hid (Fam w0 wr (RL l i j q r (m.dV x))):=by
      have h7:=HF.out;rw [List.take_of_length_le (by have:=HRN.out;omega),aPF.out,RL.app T2] at h7;exact h7.pop
     go_wp2_with fail;exact hR.out _ _ ⟨rfl,HE.out⟩
  have hc2:1<c:=by omega
  obtain ⟨n,hn⟩:∃ z,z=t.length:=⟨_,rfl⟩;have HTN:Hid (t.length=n):=hn.symm;rw [<-hn] at z2 aHk hcap;have hl2:(1:Int)<=((n+1:Nat):Int):=by omega
  have hl3:((n+1:Nat):Int)<=c:=by omega
  clear hn;go_in;go_wp2_with fail;refine cn.mono ?_;rintro e _ ⟨rfl,rfl⟩;go_wp2_with (at_builtin;refine fU rfl _ _ rfl w.heap.size _ [] rfl (aO.nil _ _) ⟨b,o+1,none⟩ n _ t rfl ?c1 ?c2 ?c3 ?c4 ?c5)
  case c1=>exact HTN.out
  case c2=>
   intro k u hu;have hk:k<t.length:=(List.getElem?_eq_some_iff.1 hu).1;have h7:=HRD.out k hk;rw [show (⟨b,o+1,none⟩:Addr).add k=⟨b,o+(k+1),none⟩ by unfold Addr.add;split<;>simp_all;omega,h7,gI,hu]
   rfl
  case c3=>have:=aRh.out;have:=HTN.out;simp;omega
  case c4=>simp
  case c5=>
   intro v1 w1 hi1 ho1 _ _;replace hi1:aO w1 w.heap.size v1 t:=hi1;replace ho1:Only [] w w1:=ho1;have HI1:=aA hi1;have HO1:=aA ho1;have hrow1:∃ U,Row w1 r U [.pointer (some ⟨q,0,none⟩),.slice (some ⟨tg,0,none⟩) 193 tc,.slice (some ⟨b,o,none⟩) (n+1) c]:=aHk.out.imp fun U x=>ho1.row x (by simp);have hz:w1.cell? ⟨r,2,none⟩=some (.slice (some ⟨b,o,none⟩) (n+1) c)/\w1.frozen? ⟨r,2,none⟩=false:=by
    obtain ⟨U,x⟩:=hrow1;exact ⟨x.cell 2 rfl,x.free 2⟩
   obtain ⟨y2,yf⟩:=hz;have HV1:Hid (∀ g,v1.ownBlock=some g->w.heap.size<=g/\g<w1.heap.size):=fun g hg=>hi1.own g hg;have hs2:Only [r] w1 (w1.setCell ⟨r,2,none⟩ v1):=(Only.refl [r] w1).set (.inl (by simp)) _;have hrow2:∃ U,Row (w1.setCell ⟨r,2,none⟩ v1) r U [.pointer (some ⟨q,0,none⟩),.slice (some ⟨tg,0,none⟩) 193 tc,v1]:=hrow1.imp fun U y=>y.set 2 _;have ht2:aO (w1.setCell ⟨r,2,none⟩ v1) 0 (.slice (some ⟨tg,0,none⟩) 193 tc) T:=(aPd.out.only ho1 (by simp)).only hs2 (fun k hk=>by cases hk;simpa using Ne.symm HNE.out);have hi2:aO (w1.setCell ⟨r,2,none⟩ v1) 0 v1 t:=(hi1.base (Nat.zero_le _)).only hs2 (fun k hk=>by have:=HV1.out k hk;have:=HPL.out;simp;omega);have t0:(w1.setCell ⟨r,2,none⟩ v1).frozen? ⟨tg,x,none⟩=false/\∃ z,(w1.setCell ⟨r,2,none⟩ v1).cell? ⟨tg,x,none⟩=some z:=by
    obtain ⟨_,_,cs,hr,_⟩:=ht2.row;refine ⟨hr.free x,?_⟩;rcases ht2.form with ⟨e,_⟩|⟨g,cap,e,_,_,_,hc⟩
    ·cases e
    simp only [Value.slice.injEq,Option.some.injEq,Addr.mk.injEq] at e;obtain ⟨⟨rfl,_⟩,_,_⟩:=e;exact ⟨_,hc x (by rw [HTL.out];exact HXN.out)⟩
   obtain ⟨tf,tz,t0⟩:=t0;have z1':(w1.setCell ⟨r,2,none⟩ v1).cell? ⟨r,1,none⟩=some (.slice (some ⟨tg,0,none⟩) 193 tc):=by
    obtain ⟨U,x⟩:=hrow2;exact x.cell 1 rfl
   have hs3:Only [tg] (w1.setCell ⟨r,2,none⟩ v1) ((w1.setCell ⟨r,2,none⟩ v1).setCell ⟨tg,x,none⟩ (.int .i64 2)):=(Only.refl [tg] _).set (.inl (by simp)) _;have aIQ:aDd ((w1.setCell ⟨r,2,none⟩ v1).setCell ⟨tg,x,none⟩ (.int .i64 2)) r q tg tc v1 (T.set x 2) (jM m.col x 2) t:=⟨hrow2.imp fun U y=>hs3.row y (by simpa using HNE.out),ht2.setAt x 2,by rw [List.length_set];exact HTL.out,fun k hk=>by
    rw [qY (by rw [HTL.out];exact HXN.out)]
    by_cases e:k=x
    ·rw [if_pos e,e,bZ]
    rw [if_neg e,bG _ _ (show (k:Int)≠(x:Int) by omega)];exact HTV.out k hk,hi2.only hs3 (fun k hk=>by have:=HV1.out k hk;have:=aMs.out;simp;omega),HNE.out,fun g hg=>by have:=HV1.out g hg;have:=HPL.out;have:=aMs.out;exact ⟨by omega,by omega⟩⟩
   have hP:aI (fun k=>k=r\/k=tg\/some b=some k) w ((w1.setCell ⟨r,2,none⟩ v1).setCell ⟨tg,x,none⟩ (.int .i64 2)):=((ho1.vW (S:=fun k=>k=r\/k=tg\/some b=some k)).trans (hs2.toP (S:=fun k=>k=r) (fun z hz=>.inl (by simpa using hz))) (fun z hz=>.inl (.inl hz))).trans (hs3.toP (S:=fun k=>k=tg) (fun z hz=>.inl (by simpa using hz))) (fun z hz=>.inl (.inr (.inl hz)));have hf3:=HT2.out _ v1 _ _ _ aIQ (fun g hg=>(HV1.out g hg).1) hP;have HF3:=aA hf3;obtain ⟨q0,q1,q2,qf⟩:=aIQ.cells;obtain ⟨hk3,L3,X3,hp3⟩:=RL.gh T2 hf3;have cr:=xZ _ hp3 hk3 x;obtain ⟨va,vc,rfl⟩:=hi1.len;clear hrow1 hs2 hrow2 ht2 hi2 hs3 aIQ hP hf3 hp3 hk3 hi1 ho1;generalize t.length=n1 at*;go_wp2_with fail;refine cr.mono ?_;rintro e w4 ⟨vr,rfl,hi4,ho4⟩;have HF4:Hid (Fam w0 w4 (RL (l ++ [dQ vr (m.M.refs x).1]) i j q r ⟨m.M,jM m.col x 2,t⟩)):=by
    show Fam _ _ _;rw [RL.app T2];exact HF3.out.jG ho4 hi4
   obtain ⟨ra,rc,rfl⟩:=hi4.len;obtain ⟨rn,hrn⟩:∃ z,z=(m.M.refs x).1.length:=⟨_,rfl⟩;have HRN:=aA hrn;have hrl:=qE HM.out.hf.ok (x:Int);rw [<-hrn] at hrl HF4 ⊢;clear cr hi4 ho4 hrn y2 yf t0 tf z1' q0 q1 q2 qf;go_wp2_with fail;go_loopw [8] (fun iv wr=>∃ k:Nat,k<=rn/\iv=.int .i64 k/\Fam w0 wr (RL (l ++ [dQ (.slice ra rn rc) (m.M.refs x).1]) i j q r ((⟨m.M,jM m.col x 2,t⟩:Mk).bC ((m.M.refs x).1.take k)))) (fun iv _=>rn - (intOf iv).toNat)
   case atStart=>exact ⟨0,by omega,rfl,HF4.out⟩
   case round=>
    clear HF4;obtain ⟨k,hk,rfl,hf⟩:=hrel;have HF:=aA hf;clear hf
    by_cases hlt:k<rn
    ·have hlt1:(k:Int)<rn:=by omega
     have hk0:(0:Int)<=k:=by omega
     have hkl:k<(m.M.refs x).1.length:=by rw [<-HRN.out];exact hlt
     obtain ⟨b4,o4,rfl,hc⟩:=(HF.out.ints l.length (RL.at T2)).read.at hkl;have cs:=iH wr (T2.app _) HF.out (Mk.Ok.bC _ _ HK1.out) (gI (m.M.refs x).1 k);rw [<-lH hkl] at cs;clear hkl;generalize gI (m.M.refs x).1 k=y at*;go_wp2_with fail;refine cs.mono ?_;rintro e w5 ⟨rfl,hf⟩;have HF5:=aA hf;clear cs hf hc HF;go_wp2_with fail;exact ⟨⟨k+1,by omega,by go_num,HF5.out⟩,by simp [intOf];omega⟩
    obtain rfl:k=rn:=by omega
    have hlt1:¬ (k:Int)<(k:Int):=by omega
    have HE:Hid (Fam w0 wr (RL l i j q r (m.dV x))):=by
     have h7:=HF.out;rw [List.take_of_length_le (by have:=HRN.out;omega),aPF.out,RL.app T2] at h7;exact h7.pop
    go_wp2_with fail;exact hR.out _ _ ⟨rfl,HE.out⟩
end
theorem aBx {l:List Int} {x:Int} {k:Nat} (hk:k<l.length):bM (l.take (k+1)) x=bM (l.take k) x ++ if gI l k≠x then [gI l k] else []:=by
 unfold bM;rw [bU hk];congr 1
 by_cases e:gI l k=x<;>simp [e]
theorem aFr (l:List Int) (x:Int):(bM l x).length<=l.length:=List.length_filter_le _ _
theorem aDd.aHS {w:World} {r q tg tc:Nat} {v:Value} {T:List Int} {col:Int->Int} {list:List Int} (h:aDd w r q tg tc v T col list) {x:Nat} (hx:x<193) (y:Int):aDd (w.setCell ⟨tg,x,none⟩ (.int .i64 y)) r q tg tc v (T.set x y) (jM col x y) list:=by
 have hs:Only [tg] w (w.setCell ⟨tg,x,none⟩ (.int .i64 y)):=(Only.refl [tg] w).set (.inl (by simp)) _;refine ⟨h.row.imp fun U z=>hs.row z (by simpa using h.ne),h.tint.setAt x y,by rw [List.length_set];exact h.tl,fun k hk=>?_,h.ints.only hs (fun k hk=>by have:=(h.ne2 k hk).2;simpa using this),h.ne,h.ne2⟩;rw [qY (by rw [h.tl];exact hx)]
 by_cases e:k=x
 ·rw [if_pos e,e,bZ]
 rw [if_neg e,bG _ _ (show (k:Int)≠(x:Int) by omega)];exact h.tv k hk
section
variable {w0 w:World} {l:List Asn} {i j q r:Nat} {m:Mk}
theorem aDY (w:World) (T2:fZ l i j) (hf:Fam w0 w (RL l i j q r m)) (hlen:m.list.length<=1000000) (x:Int) (hx:1<=x/\x<=192):Calls prog 245 #[.pointer (some ⟨r,0,none⟩),.int .i64 x] w (fun e w'=>e=.returned (.tuple #[])/\Fam w0 w' (RL l i j q r (m.forget x))):=by
 refine aF fun R hR=>?_;obtain ⟨tg,tc,v,T,hg,ht⟩:=RL.mkT T2 hf;obtain ⟨z0,z1,z2,zf⟩:=hg.cells;obtain ⟨y,hy⟩:∃ y:Nat,x=(y:Int):=⟨x.toNat,by omega⟩;subst hy;have hyn:y<193:=by omega
 have hy0:(0:Int)<=(y:Int):=by omega
 have hy1:(y:Int)<193:=by omega
 have hy2:¬ (y:Int)<1:=by omega
 have hy3:¬ (192:Int)<(y:Int):=by omega
 obtain ⟨t0,tf⟩:=hg.aBC hyn;have hg1:=hg.aHS hyn 0;have HG1:=aA hg1;have HG:=aA hg;have HT:=aA ht;have HS1:Hid (Only [tg] w (w.setCell ⟨tg,y,none⟩ (.int .i64 0))):=(Only.refl [tg] w).set (.inl (by simp)) _;have HPL:Hid (r<w.heap.size):=by obtain ⟨U,hr⟩:=hg.row;exact hr.lt
 have aMs:Hid (tg<w.heap.size):=(hg.tint.own tg rfl).2;have hsz:(w.setCell ⟨tg,y,none⟩ (.int .i64 0)).heap.size=w.heap.size:=by simp
 have HSZ:=aA hsz;clear hf hg hg1 ht hx hsz;go_in;go_wp2_with fail;generalize w.setCell ⟨tg,y,none⟩ (.int .i64 0)=w1 at*;obtain ⟨a,c,hv⟩:=HG1.out.ints.len;subst hv;obtain ⟨n,hn⟩:∃ z,z=m.list.length:=⟨_,rfl⟩;have HN:=aA hn;have pJ:Hid (∃ U,Row w1 r U [.pointer (some ⟨q,0,none⟩),.slice (some ⟨tg,0,none⟩) 193 tc,.slice a n c]):=by
  have h7:=HG1.out.row;rw [<-hn] at h7;exact h7
 rw [<-hn] at hlen;clear z0 z1 z2 t0 tf hn;go_loopw [4,5] (fun vv iv wr=>∃ k:Nat,k<=n/\iv=.int .i64 k/\aO wr w1.heap.size vv (bM (m.list.take k) y)/\Only [] w1 wr) (fun _ iv _=>n - (intOf iv).toNat)
 case atStart=>exact ⟨0,by omega,rfl,aO.nil _ _,Only.refl _ _⟩
 case round=>
  obtain ⟨k,hk,rfl,hi,ho⟩:=hrel;have hz:wr.cell? ⟨r,2,none⟩=some (.slice a n c)/\wr.frozen? ⟨r,2,none⟩=false:=by
   obtain ⟨U,hr⟩:=pJ.out;exact ⟨(ho.row hr (by simp)).cell 2 rfl,(ho.row hr (by simp)).free 2⟩
  obtain ⟨z2,zf2⟩:=hz;have HI:=aA hi;have HO:=aA ho;obtain ⟨va,vc,hvv⟩:=hi.len;obtain ⟨vn,hvn⟩:∃ z,z=(bM (m.list.take k) (y:Int)).length:=⟨_,rfl⟩;have hvl:vn<=1000000:=by
   have h1:=aFr (m.list.take k) (y:Int);rw [List.length_take] at h1;omega
  rw [<-hvn] at hvv;subst hvv;have HVN:=aA hvn;clear hi ho hvn
  by_cases hlt:k<n
  ·have hlt1:(k:Int)<n:=by omega
   have hk0:(0:Int)<=k:=by omega
   have hkl:k<m.list.length:=by rw [<-HN.out];exact hlt
   obtain ⟨b,o,rfl,hc⟩:=(HG1.out.ints.only HO.out (by simp)).read.at hkl;have hs2:=aBx (x:=(y:Int)) hkl;have HS2:=aA hs2;clear hs2 hkl;obtain ⟨z,hz⟩:∃ z,z=gI m.list k:=⟨_,rfl⟩;rw [<-hz] at hc HS2;clear hz
   by_cases hzy:z=(y:Int)
   ·subst hzy;have HIN:Hid (aO wr w1.heap.size (.slice va vn vc) (bM (m.list.take (k+1)) (y:Int))):=by
     show aO _ _ _ _;rw [HS2.out];simpa using HI.out
    go_wp2_with fail;exact ⟨⟨k+1,by omega,by go_num,HIN.out,HO.out⟩,by simp [intOf];omega⟩
   have hzb:(z != (y:Int))=true:=by simpa using hzy
   have HNX:Hid (bM (m.list.take (k+1)) (y:Int)=bM (m.list.take k) (y:Int) ++ [z]):=by show _=_;rw [HS2.out,if_pos hzy]
   have hcW:(wr.alloc (.cells #[.int .i64 z] 3)).cell? ⟨r,2,none⟩=some (.slice (some ⟨b,o,none⟩) n c):=((Only.refl [] wr).alloc _).cell z2 (by simp);go_wp2_with (at_builtin;refine bI rfl _ _ rfl w1.heap.size _ _ rfl (HI.out.alloc (.cells #[.int .i64 z] 3)) wr.heap.size z rfl ?c1 ?c2 ?c3 ?c4)
   case c1=>exact (Row.new wr _ [_]).cell 0 rfl
   case c2=>have:=HVN.out;omega
   case c3=>have:=HO.out.size;simp;omega
   case c4=>
    intro v' w2 hi2 ho2 hb2;have HO4:Hid (Only [] w1 w2):=nR HO.out HI.out ho2;have HI4:Hid (aO w2 w1.heap.size v' (bM (m.list.take (k+1)) (y:Int))):=by show aO _ _ _ _;rw [HNX.out];exact hi2
    clear hi2 ho2 hb2;go_wp2_with fail;exact ⟨⟨k+1,by omega,by go_num,HI4.out,HO4.out⟩,by simp [intOf];omega⟩
  obtain rfl:k=n:=by omega
  have hlt1:¬ (k:Int)<(k:Int):=by omega
  have HFN:Hid (Fam w0 (wr.setCell ⟨r,2,none⟩ (.slice va vn vc)) (RL l i j q r (m.forget (y:Int)))):=by
   have hi:aO wr w1.heap.size (.slice va vn vc) (bM m.list (y:Int)):=by
    have h7:=HI.out;rw [List.take_of_length_le (by have:=HN.out;omega)] at h7;exact h7
   have hown:∀ g,(Value.slice va vn vc).ownBlock=some g->w.heap.size<=g:=fun g hg=>by have:=(hi.own g hg).1;have:=HSZ.out;omega
   have hs4:Only [r] wr (wr.setCell ⟨r,2,none⟩ (.slice va vn vc)):=(Only.refl [r] wr).set (.inl (by simp)) _;have hrow:∃ U,Row wr r U [.pointer (some ⟨q,0,none⟩),.slice (some ⟨tg,0,none⟩) 193 tc,.slice a k c]:=pJ.out.imp fun U z=>HO.out.row z (by simp);have hP:=((HS1.out.trans HO.out (by simp)).toP (S:=fun z=>z=r\/z=tg\/(Value.slice a m.list.length c).ownBlock=some z) (fun z hz=>.inl (.inr (.inl (by simpa using hz))))).set (p:=⟨r,2,none⟩) (.inl (.inl rfl)) (.slice va vn vc);refine HT.out _ tg tc _ _ _ _ ⟨hrow.imp fun U z=>z.set 2 _,(HG1.out.tint.only HO.out (by simp)).only hs4 (fun z hz=>by cases hz;simpa using Ne.symm HG1.out.ne),HG1.out.tl,HG1.out.tv,(hi.base (Nat.zero_le _)).only hs4 (fun z hz=>by have:=hown z hz;have:=HPL.out;simp;omega),HG1.out.ne,fun g hg=>?_⟩ (.inl rfl) (fun g hg=>.inr (hown g hg)) hP;have h1:=hown g hg;have h2:=HPL.out;have h3:=aMs.out;exact ⟨by omega,by omega⟩
  go_wp2_with fail;go_end0;exact hR.out _ _ ⟨rfl,HFN.out⟩
theorem aAk (w:World) (T2:fZ l i j) (hf:Fam w0 w (RL l i j q r m)) (hlen:m.list.length<=1000000) (x e0:Int) (hx:e0=0->1<=x/\x<=192):Calls prog 217 #[.pointer (some ⟨r,0,none⟩),.int .i64 x,.int .i64 e0] w (fun e w'=>e=.returned (.tuple #[.int .i64 x,.int .i64 e0])/\Fam w0 w' (RL l i j q r (if e0=0 then m.black x else m))):=by
 refine aF fun R hR=>?_;have HF:=aA hf
 by_cases he:e0=0
 ·subst he;rw [if_pos rfl] at hR;have co:=aDY w T2 hf hlen x (hx rfl);obtain ⟨h1,h2⟩:=hx rfl;obtain ⟨y,hy⟩:∃ y:Nat,x=(y:Int):=⟨x.toNat,by omega⟩;subst hy;have hyn:y<193:=by omega
  have hy0:(0:Int)<=(y:Int):=by omega
  have hy1:(y:Int)<193:=by omega
  clear hf hx h1 h2;go_in;go_wp2_with fail;refine co.mono ?_;rintro e w1 ⟨rfl,hf⟩;obtain ⟨tg,tc,v,T,hg,ht⟩:=RL.mkT T2 hf;obtain ⟨z0,z1,z2,zf⟩:=hg.cells;obtain ⟨t0,tf⟩:=hg.aBC hyn;have hs:Only [tg] w1 (w1.setCell ⟨tg,y,none⟩ (.int .i64 2)):=(Only.refl [tg] w1).set (.inl (by simp)) _;have aDh:jM (m.forget (y:Int)).col (y:Int) 2=jM m.col (y:Int) 2:=by
   funext k
   by_cases e:k=(y:Int)
   ·rw [e,bZ,bZ]
   rw [bG _ _ e,bG _ _ e];exact bG _ _ e
  have HF2:Hid (Fam w0 (w1.setCell ⟨tg,y,none⟩ (.int .i64 2)) (RL l i j q r (m.black (y:Int)))):=by
   have h7:=ht _ tg tc v _ _ _ (hg.aHS hyn 2) (.inl rfl) (fun g hg=>.inl hg) (hs.toP (fun z hz=>.inl (.inr (.inl (by simpa using hz)))));rw [aDh] at h7;exact h7
  clear co hf hg ht hs aDh HF;go_wp2_with fail;exact hR.out _ _ ⟨rfl,HF2.out⟩
 rw [if_neg he] at hR;have heb:(e0 == 0)=false:=by simpa using he
 clear hf hx;go_in;go_wp2_with fail;exact hR.out _ _ ⟨rfl,HF.out⟩
theorem mY (w:World) (T2:fZ l i j) (hf:Fam w0 w (RL l i j q r m)) (hm:m.Ok) (c:Int) (v:Value) (bl:List Bool) (hv:aAx w v bl) (hl:bl.length<=1000000):Calls prog 173 #[.pointer (some ⟨r,0,none⟩),.int .i64 c,v] w (fun e w'=>e=.returned (.tuple #[.int .i64 (m.aH c bl).1,.int .i64 (m.aH c bl).2.1])/\Fam w0 w' (RL l i j q r (m.aH c bl).2.2)):=by
 refine aF fun R hR=>?_;obtain ⟨tg,tc,vv,T,hg⟩:=RL.mk T2 hf;obtain ⟨z0,z1,z2,_⟩:=hg.cells;have c1:=hf.aCA i (RL.heap T2) (M':=(m.M.aH c bl).2.2) (fun hk=>hk.aH c bl) (fun L X hr hk=>oK w hr hk c v bl hv hl);rw [RL.put T2] at c1;have HM:=aA hm;have hnew:=m.M.gY c bl;have HX:Hid ((m.M.aH c bl).2.1=0->1<=(m.M.aH c bl).1/\(m.M.aH c bl).1<=192):=fun h0=>by
  obtain ⟨_,_,o,ho,_⟩:=hnew.yes h0;exact (hnew.ok hm.hf).ok.hr _ o ho
 unfold Mk.aH Mk.made at hR;simp only at hR;clear hf hg hm hnew hv hl;generalize m.M.aH c bl=rr at*;obtain ⟨r1,r2,M2⟩:=rr;go_in;go_wp2_with fail;refine c1.mono ?_;rintro e w1 ⟨rfl,hf⟩;have c2:=aAk w1 T2 hf (by have:=HM.out.len;show m.list.length<=1000000;omega) r1 r2 HX.out;clear c1 hf;go_wp2_with fail;refine c2.mono ?_;rintro e w2 ⟨rfl,hf⟩;have HF2:=aA hf;clear c2 hf;go_wp2_with fail;exact hR.out _ _ ⟨rfl,HF2.out⟩
theorem dF (w:World) (T2:fZ l i j) (hf:Fam w0 w (RL l i j q r m)) (hm:m.Ok) (k c n:Int):Calls prog 149 #[.pointer (some ⟨r,0,none⟩),.int .i64 k,.int .i64 c,.int .i64 n] w (fun e w'=>e=.returned (.tuple #[.int .i64 (m.aG k c n).1,.int .i64 (m.aG k c n).2.1])/\Fam w0 w' (RL l i j q r (m.aG k c n).2.2)):=by
 refine aF fun R hR=>?_;obtain ⟨tg,tc,vv,T,hg⟩:=RL.mk T2 hf;obtain ⟨z0,z1,z2,_⟩:=hg.cells;have c1:=hf.aCA i (RL.heap T2) (M':=(m.M.aG k c n).2.2) (fun hk=>hk.aG k c n) (fun L X hr hk=>qW w hr hk k c n);rw [RL.put T2] at c1;have HM:=aA hm;have hnew:=m.M.iY k c n;have HX:Hid ((m.M.aG k c n).2.1=0->1<=(m.M.aG k c n).1/\(m.M.aG k c n).1<=192):=fun h0=>by
  obtain ⟨_,_,o,ho,_⟩:=hnew.yes h0;exact (hnew.ok hm.hf).ok.hr _ o ho
 unfold Mk.aG Mk.made at hR;simp only at hR;clear hf hg hm hnew;generalize m.M.aG k c n=rr at*;obtain ⟨r1,r2,M2⟩:=rr;go_in;go_wp2_with fail;refine c1.mono ?_;rintro e w1 ⟨rfl,hf⟩;have c2:=aAk w1 T2 hf (by have:=HM.out.len;show m.list.length<=1000000;omega) r1 r2 HX.out;clear c1 hf;go_wp2_with fail;refine c2.mono ?_;rintro e w2 ⟨rfl,hf⟩;have HF2:=aA hf;clear c2 hf;go_wp2_with fail;exact hR.out _ _ ⟨rfl,HF2.out⟩
theorem aDX (w:World) (T2:fZ l i j) (hf:Fam w0 w (RL l i j q r m)) (hm:m.Ok) (a s y:Int):Calls prog 148 #[.pointer (some ⟨r,0,none⟩),.int .i64 a,.int .i64 s,.int .i64 y] w (fun e w'=>e=.returned (.int .i64 (m.store a s y).1)/\Fam w0 w' (RL l i j q r (m.store a s y).2)):=by
 refine aF fun R hR=>?_;obtain ⟨tg,tc,vv,T,hg⟩:=RL.mk T2 hf;obtain ⟨z0,z1,z2,_⟩:=hg.cells;obtain ⟨hk,L,X,hp⟩:=RL.gh T2 hf;have c1:=tJ w hp hk a s;have c2:=aAZ w hp hk a s;have c3:=hf.aCA i (RL.heap T2) (M':=(m.M.set a s y).2) (fun hk=>hk.set a s y) (fun L X hr hk=>aEW w hr hk a s y);rw [RL.put T2] at c3;have HM2:Hid ((m.put (m.M.set a s y).2).Ok):=hm.put (hm.hf.set a s y) (fun k hk=>by rw [Hp.nN];exact hk);unfold Mk.store at hR;simp only at hR;clear hf hg hm hp hk;generalize (m.M.isRef a s).1=rf at*;generalize (m.M.isRef a s).2=re at*;generalize (m.M.get a s).1=old at*;generalize (m.M.get a s).2=oe at*;generalize (m.M.set a s y).1=se at*;generalize m.put (m.M.set a s y).2=m2 at*;go_in;go_wp2_with fail;refine c1.mono ?_;rintro e _ ⟨rfl,rfl⟩;go_wp2_with fail;refine c2.mono ?_;rintro e _ ⟨rfl,rfl⟩;go_wp2_with fail;refine c3.mono ?_;rintro e w1 ⟨rfl,hf⟩;have HF:=aA hf;clear c1 c2 c3 hf z0 z1 z2
 by_cases hc:se=0/\rf=true
 ·obtain ⟨rfl,rfl⟩:=hc;rw [if_pos ⟨rfl,rfl⟩] at hR;have ca:=iH w1 T2 HF.out HM2.out old;go_wp2_with fail;refine ca.mono ?_;rintro e w2 ⟨rfl,hf⟩;have cb:=iH w2 T2 hf (HM2.out.bH old) y;clear ca hf;go_wp2_with fail;refine cb.mono ?_;rintro e w3 ⟨rfl,hf⟩;have HF2:=aA hf;clear cb hf;go_wp2_with fail;exact hR.out _ _ ⟨rfl,HF2.out⟩
 rw [if_neg hc] at hR
 by_cases hs:se=0
 ·subst hs;have hrf:rf=false:=by cases rf;rfl;exact absurd ⟨rfl,rfl⟩ hc
  subst hrf;clear hc;go_wp2_with fail;exact hR.out _ _ ⟨rfl,HF.out⟩
 have hsb:(se == 0)=false:=by simpa using hs
 clear hc;go_wp2_with fail;exact hR.out _ _ ⟨rfl,HF.out⟩
end
theorem aKQ (n:Nat) (hn:n<=1000):∃ C:Array Value,C.toList=List.replicate n (.int .i64 0)/\∀ wx:World,(Instr.makeSlice 23 (.int .i64 (n:Int)) (.int .i64 (n:Int))).run prog wx=.ok (.slice (some ⟨wx.heap.size,0,none⟩) n n) (wx.alloc (.cells C 3)):=by
 obtain ⟨i0,hi0,hz0,hz1,hz2⟩:=info_parts jR;refine ⟨madeCells (Value.int .i64 0).cells (n*1),by rw [xJ],fun wx=>?_⟩;rw [run_makeSlice (P:=prog) (w:=wx) 23 3 i0 _ Tryz.underlying23 hi0 hz0 .i64 .i64 _ _ (by omega) (by omega) (by rw [hz1];omega) (by rw [hz2];omega) (by omega),hz1];rfl
section
variable {w0 w:World} {l:List Asn} {i j q r:Nat} {m:Mk}
theorem aFs {l:List Int} {col:Int->Int} {k:Nat} (hk:k<l.length):(l.take (k+1)).filter (fun x=>decide (col x=0))=(l.take k).filter (fun x=>decide (col x=0)) ++ if col (gI l k)=0 then [gI l k] else []:=by
 rw [bU hk];congr 1
 by_cases e:col (gI l k)=0<;>simp [e]
theorem aGu (w:World) (T2:fZ l i j) (hf:Fam w0 w (RL l i j q r m)):Calls prog 223 #[.pointer (some ⟨r,0,none⟩)] w (aMq w m.white):=by
 refine aF fun R hR=>?_;obtain ⟨tg,tc,vv,T,hg⟩:=RL.mk T2 hf;obtain ⟨z0,z1,z2,_⟩:=hg.cells;obtain ⟨hk,L,X,hp⟩:=RL.gh T2 hf;have ch:=uN w hp hk;have HG:=aA hg;have HK:=aA hk;clear hf hg hp hk;go_in;go_wp2_with fail;refine ch.mono ?_;rintro e w1 ⟨lv,rfl,hlv,ho⟩;obtain ⟨la,lc,rfl⟩:=hlv.len;have HO1:=aA ho;have HLV:=aA hlv;have hlen:m.M.handles.length<=192:=Hp.mX m.M 192;obtain ⟨n,hn⟩:∃ z,z=m.M.handles.length:=⟨_,rfl⟩;have HN:=aA hn;rw [<-hn] at hlen ⊢;clear ho hlv ch hn z0 z1 z2;go_wp2_with fail;go_loopw [3,5] (fun vv iv wr=>∃ k:Nat,k<=n/\iv=.int .i64 k/\aO wr w1.heap.size vv ((m.M.handles.take k).filter (fun x=>decide (m.col x=0)))/\Only [] w1 wr) (fun _ iv _=>n - (intOf iv).toNat)
 case atStart=>exact ⟨0,by omega,rfl,aO.nil _ _,Only.refl _ _⟩
 case round=>
  obtain ⟨k,hk,rfl,hi,ho⟩:=hrel;have HI:=aA hi;have HO:=aA ho;obtain ⟨va,vc,hvv⟩:=hi.len;obtain ⟨vn,hvn⟩:∃ z,z=((m.M.handles.take k).filter (fun x=>decide (m.col x=0))).length:=⟨_,rfl⟩;have hvl:vn<=1000000:=by
   have h1:=List.length_filter_le (fun x=>decide (m.col x=0)) (m.M.handles.take k);rw [List.length_take] at h1;omega
  rw [<-hvn] at hvv;subst hvv;have HVN:=aA hvn;clear hi ho hvn
  by_cases hlt:k<n
  ·have hlt1:(k:Int)<n:=by omega
   have hk0:(0:Int)<=k:=by omega
   have hkl:k<m.M.handles.length:=by rw [<-HN.out];exact hlt
   obtain ⟨b,o,rfl,hc⟩:=(HLV.out.only HO.out (by simp)).read.at hkl;have hin:=HK.out.inR (Hp.xW hkl);have HS2:Hid ((m.M.handles.take (k+1)).filter (fun x=>decide (m.col x=0))=(m.M.handles.take k).filter (fun x=>decide (m.col x=0)) ++ if m.col (gI m.M.handles k)=0 then [gI m.M.handles k] else []):=aFs hkl;clear hkl;obtain ⟨y,hy⟩:∃ y:Nat,gI m.M.handles k=(y:Int):=⟨(gI m.M.handles k).toNat,by omega⟩;rw [hy] at hc HS2 hin;have hyn:y<193:=by omega
   have hy0:(0:Int)<=(y:Int):=by omega
   have hy1:(y:Int)<193:=by omega
   have z1:wr.cell? ⟨r,1,none⟩=some (.slice (some ⟨tg,0,none⟩) 193 tc):=HO.out.cell (HO1.out.cell HG.out.cells.2.1 (by simp)) (by simp);have t0:=HO.out.cell (HO1.out.cell (HG.out.aBC hyn).1 (by simp)) (by simp);have HOD:Hid (∀ q,Only [] w1 (wr.drewN q)):=fun q=>HO.out.drewN q;clear hin hy
   by_cases hzy:m.col (y:Int)=0
   ·have HNX:Hid ((m.M.handles.take (k+1)).filter (fun x=>decide (m.col x=0))=(m.M.handles.take k).filter (fun x=>decide (m.col x=0)) ++ [(y:Int)]):=by show _=_;rw [HS2.out,if_pos hzy]
    rw [hzy] at t0;clear HS2 hzy;go_wp2_with fail;go_quiet (fail);have hcD:(wr.drewN nq).cell? ⟨b,o+k,none⟩=some (.int .i64 (y:Int)):=hc;have HID:Hid (aO (wr.drewN nq) w1.heap.size (.slice va vn vc) ((m.M.handles.take k).filter (fun x=>decide (m.col x=0)))):=HI.out;have HOE:Hid (Only [] w1 (wr.drewN nq)):=HO.out.drewN nq;clear HI HO hc z1 t0;generalize wr.drewN nq=w2 at*;go_wp2_with (at_builtin;refine bI rfl _ _ rfl w1.heap.size _ _ rfl (HID.out.alloc (.cells #[.int .i64 (y:Int)] 3)) w2.heap.size (y:Int) rfl ?c1 ?c2 ?c3 ?c4)
    case c1=>exact (Row.new w2 _ [_]).cell 0 rfl
    case c2=>have:=HVN.out;omega
    case c3=>have:=HOE.out.size;simp;omega
    case c4=>
     intro v' w3 hi2 ho2 hb2;have HO4:Hid (Only [] w1 w3):=nR HOE.out HID.out ho2;have HI4:Hid (aO w3 w1.heap.size v' ((m.M.handles.take (k+1)).filter (fun x=>decide (m.col x=0)))):=by show aO _ _ _ _;rw [HNX.out];exact hi2
     clear hi2 ho2 hb2;go_wp2_with fail;exact ⟨⟨k+1,by omega,by go_num,HI4.out,HO4.out⟩,by simp [intOf];omega⟩
   have HNX:Hid ((m.M.handles.take (k+1)).filter (fun x=>decide (m.col x=0))=(m.M.handles.take k).filter (fun x=>decide (m.col x=0))):=by show _=_;rw [HS2.out,if_neg hzy];simp
   have hzb:(m.col (y:Int) == 0)=false:=by simpa using hzy
   clear HS2 hzy;generalize m.col (y:Int)=cy at t0 hzb;go_wp2_with fail;go_quiet (fail);have HID:Hid (aO (wr.drewN nq) w1.heap.size (.slice va vn vc) ((m.M.handles.take (k+1)).filter (fun x=>decide (m.col x=0)))):=by show aO _ _ _ _;rw [HNX.out];exact HI.out
   have HOE:Hid (Only [] w1 (wr.drewN nq)):=HO.out.drewN nq;clear HI HO hc z1 t0;generalize wr.drewN nq=w2 at*;go_wp2_with fail;exact ⟨⟨k+1,by omega,by go_num,HID.out,HOE.out⟩,by simp [intOf];omega⟩
  obtain rfl:k=n:=by omega
  have hlt1:¬ (k:Int)<(k:Int):=by omega
  have HE:Hid (aO wr w.heap.size (.slice va vn vc) m.white):=by
   have h7:=HI.out;rw [List.take_of_length_le (by have:=HN.out;omega)] at h7;exact h7.base HO1.out.size
  have HOE:Hid (Only [] w wr):=HO1.out.trans HO.out (by simp);go_wp2_with fail;exact hR.out _ _ ⟨_,rfl,HE.out,HOE.out⟩
theorem RL.born {M:Hp} (hi:l[i]?=some (GH q M)):RL (l ++ [GkA r q (fun _=>0) []]) i l.length q r (Mk.start M)=l ++ [GkA r q (fun _=>0) []]:=by
 have hil:i<l.length:=(List.getElem?_eq_some_iff.1 hi).1;unfold RL;rw [List.set_append_left _ _ hil,show (Mk.start M).M=M from rfl,lX hi,List.set_append_right _ _ (by omega),Nat.sub_self];rfl
theorem aAl (w:World) {M:Hp} (hf:Fam w0 w l) (hi:l[i]?=some (GH q M)) (a:Option Addr) (n c:Nat) (roots:List Int) (hl:roots.length=n) (hn:n<=1000000) (hr0:nI w (.slice a n c) roots)
  (hr:∀ r w' m',Fam w0 w' (RL (l ++ [GkA r q (fun _=>0) []]) i l.length q r m')->nI w' (.slice a n c) roots) (hM:M.OkF) :
  Calls prog 181 #[.pointer (some ⟨q,0,none⟩),.slice a n c] w (fun e w'=>(M.fG roots/\e=.returned (.tuple #[.pointer none,.int .i64 3])/\Fam w0 w' l)\/(¬ M.fG roots/\∃ r,e=.returned (.tuple #[.pointer (some ⟨r,0,none⟩),.int .i64 0])/\Fam w0 w' (RL (l ++ [GkA r q (fun _=>0) []]) i l.length q r ((Mk.start M).bC roots)))):=by
 refine aF fun R hR=>?_;have HF:=aA hf;have HRD:=aA hr0;have HI:=aA hi;have HR0:=aA hr;have HL:=aA hl;have HKF:=aA hM;obtain ⟨C,hC,hmk'⟩:=aKQ 193 (by omega);have hmk:∀ wx:World,(Instr.makeSlice 23 (.int .i64 193) (.int .i64 193)).run prog wx=.ok (.slice (some ⟨wx.heap.size,0,none⟩) 193 193) (wx.alloc (.cells C 3)):=hmk';have HC:=aA hC;clear hf hr0 hi hr hl hM hC hmk';go_in;go_wp2_with fail;go_loopw [6] (fun iv wr=>∃ k:Nat,k<=n/\iv=.int .i64 k/\Only [] w wr/\Hid (∀ j,j<k->¬ (gI roots j≠0/\(M.ob (gI roots j)).isSome=false))) (fun iv _=>n - (intOf iv).toNat)
 case atStart=>exact ⟨0,by omega,rfl,Only.refl _ _,fun j hj=>by omega⟩
 case round=>
  obtain ⟨k,hk,rfl,ho,HB⟩:=hrel;have HO:=aA ho;have HFr:=aA (HF.out.aN ho);clear ho
  by_cases hlt:k<n
  ·have hlt1:(k:Int)<n:=by omega
   have hk0:(0:Int)<=k:=by omega
   have hkl:k<roots.length:=by rw [HL.out];exact hlt
   obtain ⟨b,o,rfl,hc⟩:=(HRD.out.only HO.out (by simp)).at hkl;have HBM:Hid (gI roots k≠0/\(M.ob (gI roots k)).isSome=false->M.fG roots):=fun h=>⟨gI roots k,jQ.2 ⟨k,hkl,rfl⟩,h.1,by cases e:M.ob (gI roots k);rfl;rw [e] at h;simp at h⟩;have HBN:Hid (¬ (gI roots k≠0/\(M.ob (gI roots k)).isSome=false)->∀ j,j<k+1->¬ (gI roots j≠0/\(M.ob (gI roots j)).isSome=false)):=fun hd j hj=>by
    by_cases e:j=k
    ·rw [e];exact hd
    exact HB.out j (by omega)
   obtain ⟨hk2,L,X,hp⟩:=HFr.out.gh i HI.out;have cl:=kX wr hp hk2 (gI roots k);clear hkl hp hk2
   by_cases hx0:gI roots k=0
   ·have HBX:=aA (HBN.out (fun h=>h.1 hx0));rw [hx0] at hc;clear HBM HBN cl hx0;go_wp2_with fail;exact ⟨⟨k+1,by omega,by go_num,HO.out,HBX.out⟩,by simp [intOf];omega⟩
   have hxb:(gI roots k != 0)=true:=by simpa using hx0
   cases hs:(M.ob (gI roots k)).isSome with
   | true=>
    rw [hs] at cl;have HBX:=aA (HBN.out (fun h=>by have:=h.2;rw [hs] at this;cases this))
    clear HBM HBN hs hx0;generalize gI roots k=x at*;go_wp2_with fail;refine cl.mono ?_;rintro e w2 ⟨rfl,ho⟩;have HO2:Hid (Only [] w w2):=HO.out.trans ho (by simp);clear cl ho hc;go_wp2_with fail;exact ⟨⟨k+1,by omega,by go_num,HO2.out,HBX.out⟩,by simp [intOf];omega⟩
   | false=>
    rw [hs] at cl;have HBX:=aA (HBM.out ⟨hx0,hs⟩);clear HBM HBN hs hx0;generalize gI roots k=x at*;go_wp2_with fail;refine cl.mono ?_;rintro e w2 ⟨rfl,ho⟩;have HF2:=aA (HFr.out.aN ho);clear cl ho hc;go_wp2_with fail;exact hR.out _ _ (.inl ⟨HBX.out,rfl,HF2.out⟩)
  obtain rfl:k=n:=by omega
  have hlt1:¬ (k:Int)<(k:Int):=by omega
  have HNB:Hid (¬ M.fG roots):=fun ⟨x,h1,h2,h3⟩=>by
   obtain ⟨j,hj,rfl⟩:=jQ.1 h1;exact HB.out j (by have:=HL.out;omega) ⟨h2,by rw [h3];rfl⟩
  have hsz:(wr.alloc (.cells C 3)).heap.size=wr.heap.size+1:=by simp
  have hborn:aFq wr ((wr.alloc (.cells C 3)).alloc (.cells #[.pointer (some ⟨q,0,none⟩),.slice (some ⟨wr.heap.size,0,none⟩) 193 193,.slice none 0 0] 150)) (GkA (wr.heap.size+1) q (fun _=>0) []):=by
   refine ⟨((Only.refl [] wr).alloc _).alloc _,fun k=>k=wr.heap.size+1\/k=wr.heap.size\/(Value.slice none 0 0).ownBlock=some k,⟨wr.heap.size,193,.slice none 0 0,List.replicate 193 0,⟨⟨150,?_⟩,?_,List.length_replicate,fun k hk=>?_,aO.nil _ _,by omega,fun g hg=>by cases hg⟩,fun k=>Iff.rfl⟩,fun k hk=>?_⟩
   ·have:=Row.new (wr.alloc (.cells C 3)) 150 [.pointer (some ⟨q,0,none⟩),.slice (some ⟨wr.heap.size,0,none⟩) 193 193,.slice none 0 0];rw [hsz] at this;exact this
   ·have h1:Row (wr.alloc (.cells C 3)) wr.heap.size 3 (List.replicate 193 (.int .i64 0)):=by rw [<-HC.out];exact Row.new wr 3 C.toList
    have h2:=aO.ofRow (w:=(wr.alloc (.cells C 3)).alloc (.cells #[.pointer (some ⟨q,0,none⟩),.slice (some ⟨wr.heap.size,0,none⟩) 193 193,.slice none 0 0] 150)) (base:=0) (l:=List.replicate 193 0) (cap:=193) (Nat.zero_le _) (h1.alloc _) (by simp) (by simp) (by simp) (by simp [maxLen]);rw [List.length_replicate] at h2;exact h2
   ·unfold gI;rw [List.getElem?_replicate,if_pos hk];rfl
   rcases hk with hk|hk|hk
   ·omega
   ·omega
   cases hk
  have hf4:=HFr.out.add hborn;rw [<-RL.born HI.out] at hf4;have HF4:=aA hf4;have HK0:Hid ((Mk.start M).Ok):=Mk.Ok.start HKF.out;obtain ⟨r,hr⟩:∃ z,z=wr.heap.size+1:=⟨_,rfl⟩;have HRR:=aA hr;rw [<-hr] at HF4;clear hborn hf4 hsz;go_wp2_with fail;rw [<-hr];generalize ((wr.alloc (.cells C 3)).alloc (.cells #[.pointer (some ⟨q,0,none⟩),.slice (some ⟨wr.heap.size,0,none⟩) 193 193,.slice none 0 0] 150))=w4 at*;clear hr hmk;go_loopw [8] (fun iv wr2=>∃ k2:Nat,k2<=k/\iv=.int .i64 k2/\Fam w0 wr2 (RL (l ++ [GkA r q (fun _=>0) []]) i l.length q r ((Mk.start M).bC (roots.take k2)))) (fun iv _=>k - (intOf iv).toNat)
  case atStart=>exact ⟨0,by omega,rfl,HF4.out⟩
  case round=>
   clear HF4;obtain ⟨k2,hk2,rfl,hf⟩:=hrel;have HF5:=aA hf;clear hf
   by_cases hlt2:k2<k
   ·have hlt3:(k2:Int)<k:=by omega
    have aTC:(0:Int)<=k2:=by omega
    have hkl:k2<roots.length:=by rw [HL.out];exact hlt2
    obtain ⟨b,o,rfl,hc⟩:=(HR0.out r _ _ HF5.out).at hkl;have cs:=iH _ (fZ.born HI.out) HF5.out (Mk.Ok.bC _ _ HK0.out) (gI roots k2);rw [<-lH hkl] at cs;clear hkl;generalize gI roots k2=x at*;go_wp2_with fail;refine cs.mono ?_;rintro e w6 ⟨rfl,hf⟩;have HF6:=aA hf;clear cs hf hc HF5;go_wp2_with fail;exact ⟨⟨k2+1,by omega,by go_num,HF6.out⟩,by simp [intOf];omega⟩
   obtain rfl:k2=k:=by omega
   have hlt3:¬ (k2:Int)<(k2:Int):=by omega
   have HE:Hid (Fam w0 wr (RL (l ++ [GkA r q (fun _=>0) []]) i l.length q r ((Mk.start M).bC roots))):=by
    have h7:=HF5.out;rw [List.take_of_length_le (by have:=HL.out;omega)] at h7;exact h7
   go_wp2_with fail;exact hR.out _ _ (.inr ⟨HNB.out,r,rfl,HE.out⟩)
end
end Go.Proofs.YthflghdaejbdkaaGreat
