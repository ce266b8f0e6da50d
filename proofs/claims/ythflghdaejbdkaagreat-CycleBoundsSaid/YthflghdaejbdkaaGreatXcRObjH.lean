/- Lemmas of this claim. -/
import Derived.Test.YthflghdaejbdkaaGreatXcRObj
namespace Go.Proofs.YthflghdaejbdkaaGreat
open Go.RowKit Go.Maps
set_option maxHeartbeats 3200000
set_option maxRecDepth 100000
set_option linter.unusedVariables false
section
variable {L:Nat->Option Gb} {hb:Nat} {X:GX} {P:Pl} {ob:Int->Option Th}
theorem aBJ (w:World) (h:bH w L hb ⟨P,ob⟩ X) (a6:P.ok) {i:Nat} (hi:i<193) {o:Th} (ho:ob (i:Int)=some o) (lo:aQL o) :
  Calls Tryz.prog 214 #[.pointer (some ⟨hb,0,none⟩),.int .i64 i] w fun e w'=>e=.returned (.tuple #[])/\bH w' L hb ⟨o.lay P i,ob⟩ X/\aI (fun k=>kK (L k)) w w':=by
 refine aF fun R hR=>?_;have h2:=h.cells.1;obtain ⟨c0,c1,c2,c3,c4⟩:=h.iR (M:=⟨P,ob⟩) hi ho;have x0:(0:Int)<=i:=by omega
 have x1:(i:Int)<193:=by omega
 have th:=h.th (i:Int) o ho;obtain ⟨a2,b2,e2⟩:=th.rb.len;obtain ⟨a3,b3,e3⟩:=th.sl.len;obtain ⟨bg,b4,e4,z1⟩:=th.bl.cellsOf lo.b1;have y5:Hid (L bg=some (.bl i)):=th.Lb bg (by rw [e4];rfl);have y2:=th.sl;have y0:=th.Ls;rw [e2] at c2;rw [e3] at c3 y2 y0;rw [e4] at c4;obtain ⟨bn,z2⟩:∃ z,z=o.blocks.length:=⟨_,rfl⟩;obtain ⟨n,hn⟩:∃ z,z=o.slots.length:=⟨_,rfl⟩;rw [<-z2] at c4 z1;rw [<-hn] at c3 y2 y0;have b6:=aA y2;have b0:=aA y0;have x4:=aA z1;have h5:=aA z2;have HN:=aA hn;have LO:=aA lo;have H:=aA h;have y7:=aA a6;have d0:=aA ho;generalize o.kind=kd at*;generalize o.cls=cl at*;generalize o.refs.length=rn at*;obtain ⟨og,a5⟩:∃ z,z=X.og:=⟨_,rfl⟩;rw [<-a5] at h2 c0 c1 c2 c3 c4;have x9:Hid (Row (w.alloc (.cells #[.int .i64 kd,.int .i64 cl,.slice a2 rn b2,.slice a3 n b3,.slice (some ⟨bg,0,none⟩) bn b4] 217)) w.heap.size 217 [.int .i64 kd,.int .i64 cl,.slice a2 rn b2,.slice a3 n b3,.slice (some ⟨bg,0,none⟩) bn b4]):=Row.new w _ [_,_,_,_,_];have h6:Hid (Only [] w (w.alloc (.cells #[.int .i64 kd,.int .i64 cl,.slice a2 rn b2,.slice a3 n b3,.slice (some ⟨bg,0,none⟩) bn b4] 217))):=(Only.refl [] w).alloc _;clear th h a6 ho lo e2 e3 e4 y2 y0 z1 z2 hn hi a5;go_in;go_wp2_with fail;generalize (w.alloc (.cells #[.int .i64 kd,.int .i64 cl,.slice a2 rn b2,.slice a3 n b3,.slice (some ⟨bg,0,none⟩) bn b4] 217))=w6 at*;obtain ⟨y,hy⟩:∃ y,y=w.heap.size:=⟨_,rfl⟩;rw [<-hy] at x9 ⊢;have y6:Hid (L y=none):=by
  show _=_
  cases e:L y with
  | none=>rfl
  | some ℓ=>have:=H.out.lt y (by rw [e];simp);omega
 clear h2 c0 c1 c2 c3 c4 hy;have x8:=aA (H.out.aN h6.out);have e0:0<bn:=by have:=h5.out;have:=LO.out.b1;omega
 have e6:bn<=7:=by have:=h5.out;have:=LO.out.b7;omega
 have d8:(0:Int)<(bn:Int):=by omega
 have d1:w6.drew.cell? ⟨hb,1,none⟩=some (.pointer (some ⟨X.q,0,none⟩)):=x8.out.cells.2.1;have d4:w6.drew.cell? ⟨y,4,none⟩=some (.slice (some ⟨bg,0,none⟩) bn b4):=x9.out.cell 4 rfl;have db:w6.drew.cell? ⟨bg,0,none⟩=some (.int .i64 (gI o.blocks 0)):=h6.out.aQ (x4.out 0 (by have:=LO.out.b1;omega));have n1:hb∉[X.k,X.c,X.l]:=H.out.notP H.out.Lm (by simp) (by simp) (by simp) (by simp);have nb:bg∉[X.k,X.c,X.l]:=H.out.notP y5.out (by simp) (by simp) (by simp) (by simp);have ny:y∉[X.k,X.c,X.l]:=by
  have:=y6.out;simp;refine ⟨?_,?_,?_⟩<;>(rintro rfl;first|(rw [H.out.Lk] at this;cases this)|(rw [H.out.Lc] at this;cases this)|(rw [H.out.Ll] at this;cases this))
 have h3:=aA (nC w6.drew X.q X.k X.c X.l P x8.out.drew.pool y7.out (gI o.blocks 0) i);obtain ⟨a0,y8⟩:∃ z,z=gI o.blocks 0:=⟨_,rfl⟩;rw [<-y8] at h3 db;have h9:=aA y8;clear y8;have N1:=aA n1;have NB:=aA nb;have NY:=aA ny;go_region_held3 (fun w'=>w'.cell? ⟨hb,1,none⟩=some (.pointer (some ⟨X.q,0,none⟩))/\w'.cell? ⟨y,4,none⟩=some (.slice (some ⟨bg,0,none⟩) bn b4)/\w'.cell? ⟨bg,0,none⟩=some (.int .i64 a0))
  (first|(exact ⟨d1,d4,db⟩)|(exact ⟨d.cell d1 n1,d.cell d4 ny,d.cell db nb⟩))
  (first
   | (go_at_call 244;refine h3.out.mono ?_;rintro e w7 ⟨rfl,h4,d⟩))
 have z6:Hid (bH w7 L hb ⟨uG P i o,ob⟩ X):=by
  show bH _ _ _ _ _;have:=x8.out.drew.gJ d h4;unfold uG;rw [<-h9.out];exact this
 have z9:Hid (aI (fun k=>kK (L k)) w6 w7):=(aI.refl _ w6).drew.trans (x8.out.drew.aCI d) (fun x hx=>.inl hx);clear h3 h4 d d1 d4 db n1 nb ny;go_wp2;go_loopw [5] (fun iv wr=>∃ k:Nat,k+1<=bn/\iv=.int .i64 ((k+1:Nat):Int)/\bH wr L hb ⟨qL (uG P i o) o k,ob⟩ X/\aI (fun k=>kK (L k)) w6 wr) (fun iv _=>8 - (intOf iv).toNat)
 case atStart=>exact ⟨0,by omega,rfl,z6.out,z9.out⟩
 case round=>
  clear z6 z9;obtain ⟨k,hk,rfl,hg,ho⟩:=hrel;have HG:=aA hg;have HO:=aA ho;have h8:¬ kK (L y):=by rw [y6.out];rintro (h|h|h|h)<;>cases h
  have h0:=ho.row x9.out h8;have d4:wr.cell? ⟨y,4,none⟩=some (.slice (some ⟨bg,0,none⟩) bn b4):=h0.cell 4 rfl
  by_cases a4:k+1<bn
  ·have y4:(((k+1:Nat):Int))<(bn:Int):=by omega
   have c5:(0:Int)<=((k+1:Nat):Int):=by omega
   have c7:((k+1:Nat):Int)<=7:=by omega
   obtain ⟨y9,z0⟩:=LO.out.rng 0 LO.out.b1;rw [<-h9.out] at y9 z0;have e1:wr.drew.cell? ⟨hb,1,none⟩=some (.pointer (some ⟨X.q,0,none⟩)):=hg.cells.2.1;have e4:wr.drew.cell? ⟨y,4,none⟩=some (.slice (some ⟨bg,0,none⟩) bn b4):=d4;have h7:¬ kK (L bg):=by rw [y5.out];rintro (h|h|h|h)<;>cases h
   have eb:wr.drew.cell? ⟨bg,0,none⟩=some (.int .i64 a0):=by rw [h9.out];exact ho.cell (h6.out.aQ (x4.out 0 (by omega))) h7
   have ek:wr.drew.cell? ⟨bg,k+1,none⟩=some (.int .i64 (gI o.blocks (k+1))):=ho.cell (h6.out.aQ (x4.out (k+1) a4)) h7;have x3:(qL (uG P i o) o k).ok:=(aFN y7.out i o k 0).1;have h3:=aA (nC wr.drew X.q X.k X.c X.l _ hg.drew.pool x3 (a0+((k+1:Nat):Int)) (gI o.blocks (k+1)));have kF:Hid (True->qL (uG P i o) o (k+1)=((qL (uG P i o) o k).setCell (a0+((k+1:Nat):Int)) (gI o.blocks (k+1))).2):=fun _=>by rw [h9.out];rfl
   have z5:IntKind.i64.wrap (a0+((k+1:Nat):Int))=a0+((k+1:Nat):Int):=IntWalk.i64_in _ (by omega);obtain ⟨kn,z3⟩:∃ z,z=k+1:=⟨_,rfl⟩;rw [<-z3] at a4 y4 c5 c7 ek h3 kF z5 ⊢;generalize gI o.blocks kn=z at*;generalize (qL (uG P i o) o k).setCell (a0+(kn:Int)) z=r at*;obtain ⟨r1,r2⟩:=r;have c9:=aA z3;have n1:=N1.out;have nb:=NB.out;have ny:=NY.out;clear hg ho h0 x3 z3 h8 h7;go_wp2_with fail;clear d4;go_region_held3 (fun w'=>w'.cell? ⟨hb,1,none⟩=some (.pointer (some ⟨X.q,0,none⟩))/\w'.cell? ⟨y,4,none⟩=some (.slice (some ⟨bg,0,none⟩) bn b4)/\w'.cell? ⟨bg,0,none⟩=some (.int .i64 a0)/\w'.cell? ⟨bg,kn,none⟩=some (.int .i64 z))
    (first|(exact ⟨e1,e4,eb,ek⟩)|(exact ⟨d.cell e1 n1,d.cell e4 ny,d.cell eb nb,d.cell ek nb⟩))
    (first
     | (go_at_call 244;refine h3.out.mono ?_;rintro e w8 ⟨rfl,h4,d⟩))
   have x5:Hid (bH w8 L hb ⟨qL (uG P i o) o kn,ob⟩ X):=by
    show bH _ _ _ _ _;have h1:=kF.out trivial;rw [h1];exact HG.out.drew.gJ d h4
   have x6:Hid (aI (fun k=>kK (L k)) w6 w8):=HO.out.drew.trans (HG.out.drew.aCI d) (fun x hx=>.inl hx);clear h3 h4 d e1 e4 eb ek n1 nb ny kF;go_wp2;exact ⟨⟨kn,by omega,by go_num,x5.out,x6.out⟩,by simp [intOf];omega⟩
  have y4:¬ (((k+1:Nat):Int))<(bn:Int):=by omega
  have a9:Hid (k=bn - 1):=by show k=bn - 1;omega
  have z7:Hid (bH wr L hb ⟨qL (uG P i o) o (o.blocks.length - 1),ob⟩ X):=by
   show bH _ _ _ _ _;rw [<-h5.out,<-a9.out];exact hg
  have z8:=aA ho;clear hg ho h0 h8 HG HO;go_wp2_with fail;clear d4;go_loopw [6] (fun iv wr=>∃ j:Nat,j<=n/\iv=.int .i64 j/\bH wr L hb ⟨aDW (qL (uG P i o) o (o.blocks.length - 1)) o j,ob⟩ X/\aI (fun k=>kK (L k)) w6 wr) (fun iv _=>49 - (intOf iv).toNat)
  case atStart=>exact ⟨0,by omega,rfl,z7.out,z8.out⟩
  case round=>
   clear z7 z8;obtain ⟨j,hj,rfl,hg,ho⟩:=hrel;have HG:=aA hg;have HO:=aA ho;have h8:¬ kK (L y):=by rw [y6.out];rintro (h|h|h|h)<;>cases h
   have h0:=ho.row x9.out h8;have d3:wr.cell? ⟨y,3,none⟩=some (.slice a3 n b3):=h0.cell 3 rfl
   by_cases e8:j<n
   ·obtain ⟨sg,c8⟩:∃ sg,a3=some ⟨sg,0,none⟩/\wr.cell? ⟨sg,j,none⟩=some (.int .i64 (gI o.slots j))/\L sg=some (.sl i):=by
     rcases b6.out.form with ⟨_,e⟩|⟨g,c,e,_,_,_,hc⟩
     ·have e5:=HN.out;rw [e] at e5;simp at e5;omega
     cases e
     have a1:=b0.out g rfl;exact ⟨g,rfl,ho.cell (h6.out.aQ (hc j (by have:=HN.out;omega))) (by show ¬ kK (L g);rw [a1];rintro (h|h|h|h)<;>cases h),a1⟩
    obtain ⟨rfl,es,b8⟩:=c8;have c6:(j:Int)<(n:Int):=by omega
    have e7:(0:Int)<=j:=by omega
    have d7:(j:Int)<48:=by have:=LO.out.s48;have:=HN.out;omega
    obtain ⟨y9,z0⟩:=LO.out.rng 0 LO.out.b1;rw [<-h9.out] at y9 z0;have h7:¬ kK (L bg):=by rw [y5.out];rintro (h|h|h|h)<;>cases h
    have d4:wr.cell? ⟨y,4,none⟩=some (.slice (some ⟨bg,0,none⟩) bn b4):=h0.cell 4 rfl;have eb:wr.cell? ⟨bg,0,none⟩=some (.int .i64 a0):=by rw [h9.out];exact ho.cell (h6.out.aQ (x4.out 0 (by omega))) h7
    have e1:wr.drew.cell? ⟨hb,1,none⟩=some (.pointer (some ⟨X.q,0,none⟩)):=hg.cells.2.1;have e3:wr.drew.cell? ⟨y,3,none⟩=some (.slice (some ⟨sg,0,none⟩) n b3):=d3;have ed:wr.drew.cell? ⟨sg,j,none⟩=some (.int .i64 (gI o.slots j)):=es;have x3:(aDW (qL (uG P i o) o (o.blocks.length - 1)) o j).ok:=(aFN y7.out i o _ j).1;have kF:Hid (aDW (qL (uG P i o) o (o.blocks.length - 1)) o (j+1)=((aDW (qL (uG P i o) o (o.blocks.length - 1)) o j).setCell (o.addr j) (gI o.slots j)).2):=rfl;have x7:=aA (fun z=>nC wr.drew X.q X.k X.c X.l _ hg.drew.pool x3 z (gI o.slots j));have n1:=N1.out;have ny:=NY.out;have y3:sg∉[X.k,X.c,X.l]:=H.out.notP b8 (by simp) (by simp) (by simp) (by simp);obtain ⟨sj,y1⟩:∃ z,z=gI o.slots j:=⟨_,rfl⟩;rw [<-y1] at es ed x7 kF;have d2:=aA y1
    by_cases d9:1<bn
    ·have b9:(1:Int)<bn:=by omega
     have hm:=LO.out.leaf (by have:=h5.out;omega) j (by have:=HN.out;omega);have x2:o.addr j=gI o.blocks (1+j / 8)+((j % 8:Nat):Int):=by unfold Th.addr;rw [if_pos (by have:=h5.out;omega)]
     have hr:=LO.out.rng _ hm;have em:wr.cell? ⟨bg,1+j / 8,none⟩=some (.int .i64 (gI o.blocks (1+j / 8))):=ho.cell (h6.out.aQ (x4.out _ (by have:=h5.out;omega))) h7;obtain ⟨z,hz⟩:∃ z,z=gI o.blocks (1+j / 8):=⟨_,rfl⟩;rw [<-hz] at em hr x2;obtain ⟨q,hq⟩:∃ q,q=j / 8:=⟨_,rfl⟩;obtain ⟨r,a7⟩:∃ r,r=j % 8:=⟨_,rfl⟩;rw [<-hq] at em;rw [<-a7] at x2;have e9:(1:Int)+q<bn:=by have:=h5.out;omega
     have f1:(j:Int) / 8=(q:Int):=by omega
     have f3:(j:Int) % 8=(r:Int):=by omega
     have f2:(r:Int)<8:=by omega
     have d5:(0:Int)<=r:=by omega
     have d6:(0:Int)<=q:=by omega
     have f0:(q:Int)<=6:=by omega
     obtain ⟨f4,f5⟩:=hr;have h3:=aA (x7.out (z+(r:Int)));rw [x2] at kF;generalize (aDW (qL (uG P i o) o (o.blocks.length - 1)) o j).setCell (z+(r:Int)) sj=z4 at*;obtain ⟨r1,r2⟩:=z4;clear hg ho h0 x3 h7 h8 hm x2 hz hq a7 x7 y1;go_wp2_with fail;clear d3 d4 eb em es;go_region_held3 (fun w'=>w'.cell? ⟨hb,1,none⟩=some (.pointer (some ⟨X.q,0,none⟩))/\w'.cell? ⟨y,3,none⟩=some (.slice (some ⟨sg,0,none⟩) n b3)/\w'.cell? ⟨sg,j,none⟩=some (.int .i64 sj))
      (first|(exact ⟨e1,e3,ed⟩)|(exact ⟨d.cell e1 n1,d.cell e3 ny,d.cell ed y3⟩))
      (first
       | (go_at_call 244;refine h3.out.mono ?_;rintro e w8 ⟨rfl,h4,d⟩))
     have x5:Hid (bH w8 L hb ⟨aDW (qL (uG P i o) o (o.blocks.length - 1)) o (j+1),ob⟩ X):=by
      show bH _ _ _ _ _;rw [kF.out];exact HG.out.drew.gJ d h4
     have x6:Hid (aI (fun k=>kK (L k)) w6 w8):=HO.out.drew.trans (HG.out.drew.aCI d) (fun x hx=>.inl hx);clear h3 h4 d e1 e3 ed n1 y3 ny kF;go_wp2;exact ⟨⟨j+1,by omega,by go_num,x5.out,x6.out⟩,by simp [intOf];omega⟩
    have b9:¬ (1:Int)<bn:=by omega
    have x2:o.addr j=a0+1+(j:Int):=by rw [h9.out];unfold Th.addr;rw [if_neg (by have:=h5.out;omega)]
    have h3:=aA (x7.out (a0+1+(j:Int)));rw [x2] at kF;generalize (aDW (qL (uG P i o) o (o.blocks.length - 1)) o j).setCell (a0+1+(j:Int)) sj=z4 at*;obtain ⟨r1,r2⟩:=z4;clear hg ho h0 x3 h7 h8 x2 x7 y1;go_wp2_with fail;clear d3 d4 eb es;go_region_held3 (fun w'=>w'.cell? ⟨hb,1,none⟩=some (.pointer (some ⟨X.q,0,none⟩))/\w'.cell? ⟨y,3,none⟩=some (.slice (some ⟨sg,0,none⟩) n b3)/\w'.cell? ⟨sg,j,none⟩=some (.int .i64 sj))
     (first|(exact ⟨e1,e3,ed⟩)|(exact ⟨d.cell e1 n1,d.cell e3 ny,d.cell ed y3⟩))
     (first
      | (go_at_call 244;refine h3.out.mono ?_;rintro e w8 ⟨rfl,h4,d⟩))
    have x5:Hid (bH w8 L hb ⟨aDW (qL (uG P i o) o (o.blocks.length - 1)) o (j+1),ob⟩ X):=by
     show bH _ _ _ _ _;rw [kF.out];exact HG.out.drew.gJ d h4
    have x6:Hid (aI (fun k=>kK (L k)) w6 w8):=HO.out.drew.trans (HG.out.drew.aCI d) (fun x hx=>.inl hx);clear h3 h4 d e1 e3 ed n1 y3 ny kF;go_wp2;exact ⟨⟨j+1,by omega,by go_num,x5.out,x6.out⟩,by simp [intOf];omega⟩
   obtain rfl:j=n:=by omega
   have c6:¬ (j:Int)<(j:Int):=by omega
   have a8:Hid (bH wr L hb ⟨o.lay P i,ob⟩ X):=by
    show bH _ _ _ _ _;unfold Th.lay;rw [<-HN.out];exact hg
   have b5:Hid (aI (fun k=>kK (L k)) w wr):=(h6.out.xA).trans ho (fun x hx=>.inl hx);clear hg ho h0 h8;go_wp2_with fail;go_end0;exact hR.out _ _ ⟨rfl,a8.out,b5.out⟩
end
set_option maxHeartbeats 1600000
def lM (w:World) (L:Nat->Option Gb) (hb:Nat) (r:Value) (M':Hp) (e:Ending) (w':World):Prop:=
 e=.returned r/\∃ y z,bH w' y hb M' z/\(∀ k,y k≠none->L k≠none\/w.heap.size<=k)/\aI (fun k=>L k≠none) w w'
theorem Hp.Ok.aMr {M:Hp} (y:M.Ok) {h:Int} {o:Th} (z:M.ob h=some o):aQL o:=by
 obtain ⟨d,e,h3,h4⟩:=y.aAu z;exact ⟨d,e,(y.th h o z).le,fun m hm=>y.wU z hm,fun hb s hs=>by have:=h4 (h3.1 hb);omega⟩
def aOX (cs:List Value) (i:Nat) (f:Nat->Value):List Value:=((((cs.set (i*5) (f 0)).set (i*5+1) (f 1)).set (i*5+2) (f 2)).set (i*5+3) (f 3)).set (i*5+4) (f 4)
theorem aMR {cs:List Value} {i:Nat} {f:Nat->Value} (d:i*5+4<cs.length) {y j:Nat} (z:j<5):(aOX cs i f)[y*5+j]?=if y=i then some (f j) else cs[y*5+j]?:=by
 unfold aOX;simp only [List.getElem?_set,List.length_set]
 by_cases e:y=i
 ·subst e;rw [if_pos rfl]
  match j,z with
  | 0,_=>rw [if_neg (by omega),if_neg (by omega),if_neg (by omega),if_neg (by omega),if_pos (by omega),if_pos (by omega)]
  | 1,_=>rw [if_neg (by omega),if_neg (by omega),if_neg (by omega),if_pos rfl,if_pos (by omega)]
  | 2,_=>rw [if_neg (by omega),if_neg (by omega),if_pos rfl,if_pos (by omega)]
  | 3,_=>rw [if_neg (by omega),if_pos rfl,if_pos (by omega)]
  | 4,_=>rw [if_pos rfl,if_pos (by omega)]
  | j+5,z=>omega
 rw [if_neg e,if_neg (by omega),if_neg (by omega),if_neg (by omega),if_neg (by omega),if_neg (by omega)]
section
variable {w w':World} {L L':Nat->Option Gb} {hb:Nat} {M:Hp} {X X':GX} {P:Pl} {ob ob':Int->Option Th}
theorem lM.none0 {r:Value} (h:bH w L hb M X) (y:Only [] w w'):lM w L hb r M (.returned r) w':=
 ⟨rfl,L,X,h.aN y,fun k z=>.inl z,y.xA⟩
theorem lM.of {w0:World} {r:Value} (z:aI (fun k=>L k≠none) w0 w') (h:bH w' L' hb M X) (y:∀ k,L' k≠none->L k≠none\/w0.heap.size<=k):lM w0 L hb r M (.returned r) w':=⟨rfl,L',X,h,y,z⟩
theorem bH.aIC (h:bH w L hb ⟨P,ob⟩ X) (hP:aI (fun k=>L k=some .objs) w w') (hX:X'.q=X.q/\X'.k=X.k/\X'.c=X.c/\X'.l=X.l/\X'.og=X.og/\X'.oc=X.oc) (y:∀ k,L k≠none->L' k=L k) (h0:∀ k,L' k≠none->k<w'.heap.size)
  (d:∃ T cs,Row w' X.og T cs/\∀ i:Nat,i<193->∀ j,j<5->cs[i*5+j]?=some (nT (ob' i) (X'.rv i) (X'.sv i) (X'.bv i) j)) (h2:∀ k o,ob' k=some o->GTh w' L' k (X'.rv k) (X'.sv k) (X'.bv k) o):bH w' L' hb ⟨P,ob'⟩ X':=by
 obtain ⟨e1,e2,e3,e4,e5,e6⟩:=hX;have z:∀ k ℓ,ℓ≠Gb.objs->L k=some .objs->L k≠some ℓ:=fun k ℓ h1 hk e=>by rw [hk] at e;cases e;exact h1 rfl
 obtain ⟨T1,m1⟩:=h.mem;refine ⟨h0,⟨T1,?_⟩,jW y h.Lm,?_,?_,?_,?_,?_,?_,?_,h2⟩
 ·rw [e5,e6,e1];exact hP.row m1 (fun x=>z _ .mem (by simp) x h.Lm)
 ·rw [e1,e2,e3,e4];exact h.pool.dA hP (fun x=>z _ .pq (by simp) x h.Lq) (fun x=>z _ .pk (by simp) x h.Lk) (fun x=>z _ .pc (by simp) x h.Lc) (fun x=>z _ .pl (by simp) x h.Ll)
 ·rw [e1];exact jW y h.Lq
 ·rw [e2];exact jW y h.Lk
 ·rw [e3];exact jW y h.Lc
 ·rw [e4];exact jW y h.Ll
 ·rw [e5];exact d
 rw [e5];exact jW y h.Lo
theorem bH.wJ (h:bH w L hb ⟨P,ob⟩ X) (y:List Value) (o:Nat):aI (fun k=>L k=some .objs) w (w.setCells X.og o y):=(aI.refl _ w).setCells (.inl h.Lo) y o
theorem bH.aND (h:bH w L hb ⟨P,ob⟩ X) {i:Nat} (hi:i<193) (f:Nat->Value):∃ T cs,Row (w.setCells X.og (i*5) [f 0,f 1,f 2,f 3,f 4]) X.og T cs/\∀ y:Nat,y<193->∀ j,j<5->cs[y*5+j]?=some (if y=i then f j else nT (ob y) (X.rv y) (X.sv y) (X.bv y) j):=by
 obtain ⟨T,cs,hr,d⟩:=h.ob;have hl:i*5+4<cs.length:=(List.getElem?_eq_some_iff.1 (d i hi 4 (by omega))).1;refine ⟨T,aOX cs i f,((((hr.set (i*5) (f 0)).set (i*5+1) (f 1)).set (i*5+2) (f 2)).set (i*5+3) (f 3)).set (i*5+4) (f 4),fun y z j e=>?_⟩;rw [aMR hl e,d y z j e];split<;>rfl
theorem bH.setObj (h:bH w L hb ⟨P,ob⟩ X) {i:Nat} (hi:i<193) (t:Th) {rv sv bv:Value} {v:Nat} (h1:Bls w v rv t.refs) (h2:aK w v sv t.slots) (h3:aK w v bv t.blocks) (hn:∀ k,v<=k->L k=none)
  (d1:∀ g,rv.ownBlock=some g->sv.ownBlock≠some g/\bv.ownBlock≠some g) (d2:∀ g,sv.ownBlock=some g->bv.ownBlock≠some g) :
  ∃ L' X',bH (w.setCells X.og (i*5) [.int .i64 t.kind,.int .i64 t.cls,rv,sv,bv]) L' hb ⟨P,dZ ob i (some t)⟩ X'/\(X'.q=X.q/\X'.k=X.k/\X'.c=X.c/\X'.l=X.l/\X'.og=X.og/\X'.oc=X.oc)/\(∀ k,L k≠none->L' k=L k)/\(∀ k,L' k≠none->L k≠none\/v<=k):=by
 obtain ⟨L',z⟩:∃ L':Nat->Option Gb,L'=fun k=>if rv.ownBlock=some k then some (.rb i) else if sv.ownBlock=some k then some (.sl i) else if bv.ownBlock=some k then some (.bl i) else L k:=⟨_,rfl⟩;have h7:∀ k,L k≠none->¬ v<=k:=fun k hk e=>hk (hn k e);have d:∀ k,L k≠none->L' k=L k:=fun k hk=>by
  have:=h7 k hk;rw [z];simp only;rw [if_neg (fun e=>by have:=(h1.own k e).1;omega),if_neg (fun e=>by have:=(h2.own k e).1;omega),if_neg (fun e=>by have:=(h3.own k e).1;omega)]
 have hO:=h.wJ [.int .i64 t.kind,.int .i64 t.cls,rv,sv,bv] (i*5);have h0:∀ k,L' k≠none->L k≠none\/(v<=k/\k<w.heap.size):=fun k hk=>by
  rw [z] at hk;simp only at hk
  by_cases e1:rv.ownBlock=some k
  ·exact .inr (h1.own k e1)
  rw [if_neg e1] at hk
  by_cases e2:sv.ownBlock=some k
  ·exact .inr (h2.own k e2)
  rw [if_neg e2] at hk
  by_cases e3:bv.ownBlock=some k
  ·exact .inr (h3.own k e3)
  rw [if_neg e3] at hk;exact .inl hk
 have h4:∀ k,v<=k->L k≠some .objs:=fun k hk e=>by rw [hn k hk] at e;cases e
 refine ⟨L',{ X with rv:=fun k=>if k=i then rv else X.rv k,sv:=fun k=>if k=i then sv else X.sv k,bv:=fun k=>if k=i then bv else X.bv k },h.aIC hO ⟨rfl,rfl,rfl,rfl,rfl,rfl⟩ d (fun k hk=>?_) ?_ (fun k u hk=>?_),⟨rfl,rfl,rfl,rfl,rfl,rfl⟩,d,fun k hk=>(h0 k hk).imp id (fun e=>e.1)⟩
 ·rcases h0 k hk with e|e
  ·exact Nat.lt_of_lt_of_le (h.lt k e) hO.size
  exact Nat.lt_of_lt_of_le e.2 hO.size
 ·obtain ⟨T,cs,hr,hc⟩:=h.aND hi (nT (some t) rv sv bv);refine ⟨T,cs,hr,fun i' h5 j hj=>?_⟩;rw [hc i' h5 j hj]
  by_cases e:i'=i
  ·subst e;rw [if_pos rfl,aY];simp only [if_true]
  have:(i':Int)≠(i:Int):=by omega
  rw [if_neg e,bD _ _ this];simp only [if_neg this]
 show GTh _ L' k (if k=i then rv else X.rv k) (if k=i then sv else X.sv k) (if k=i then bv else X.bv k) u;rcases aW hk with ⟨rfl,rfl⟩|⟨e,h6⟩
 ·rw [if_pos rfl,if_pos rfl,if_pos rfl];refine ⟨(h1.base (Nat.zero_le _)).dA hO (fun g y=>h4 g (h1.own g y).1),fun g y=>?_,(h2.base (Nat.zero_le _)).dA hO (fun g y=>h4 g (h2.own g y).1),fun g y=>?_,(h3.base (Nat.zero_le _)).dA hO (fun g y=>h4 g (h3.own g y).1),fun g y=>?_⟩
  ·rw [z];simp [y]
  ·rw [z];simp only;rw [if_neg (fun e=>(d1 g e).1 y),if_pos y]
  rw [z];simp only;rw [if_neg (fun e=>(d1 g e).2 y),if_neg (fun e=>d2 g e y),if_pos y]
 rw [if_neg e,if_neg e,if_neg e];exact ((h.th k u h6).only hO (fun x hx=>⟨(fun e=>by rw [hx] at e;cases e),(fun e=>by rw [hx] at e;cases e),(fun e=>by rw [hx] at e;cases e)⟩)).lab d
theorem bH.aOi (h:bH w L hb ⟨P,ob⟩ X) {i:Nat} (hi:i<193) :
  bH (w.setCells X.og (i*5) [.int .i64 0,.int .i64 0,.slice none 0 0,.slice none 0 0,.slice none 0 0]) L hb ⟨P,dZ ob i none⟩ X:=by
 have y:=h.wJ [.int .i64 0,.int .i64 0,.slice none 0 0,.slice none 0 0,.slice none 0 0] (i*5);refine h.aIC y ⟨rfl,rfl,rfl,rfl,rfl,rfl⟩ (fun _ _=>rfl) (fun k hk=>Nat.lt_of_lt_of_le (h.lt k hk) y.size) ?_ (fun k u hk=>?_)
 ·obtain ⟨T,cs,hr,hc⟩:=h.aND hi (nT none (.slice none 0 0) (.slice none 0 0) (.slice none 0 0));refine ⟨T,cs,hr,fun d h0 j z=>?_⟩;rw [hc d h0 j z]
  by_cases e:d=i
  ·subst e;rw [if_pos rfl,aY]
   match j,z with
   | 0,_=>rfl
   | 1,_=>rfl
   | 2,_=>rfl
   | 3,_=>rfl
   | 4,_=>rfl
   | j+5,z=>omega
  have:(d:Int)≠(i:Int):=by omega
  rw [if_neg e,bD _ _ this]
 by_cases e:k=i
 ·rw [e,aY] at hk;cases hk
 rw [bD _ _ e] at hk;exact (h.th k u hk).only y (fun x hx=>⟨(fun e=>by rw [hx] at e;cases e),(fun e=>by rw [hx] at e;cases e),(fun e=>by rw [hx] at e;cases e)⟩)
theorem bH.aIB (h:bH w L hb ⟨P,ob⟩ X) {x:Int} {o o':Th} (ho:ob x=some o) {ℓ:Gb} (hP:aI (fun k=>L k=some ℓ) w w') (hℓ:ℓ=.sl x\/ℓ=.bl x) (e1:o'.kind=o.kind) (e2:o'.cls=o.cls)
  (h2:GTh w' L x (X.rv x) (X.sv x) (X.bv x) o'):bH w' L hb ⟨P,dZ ob x (some o')⟩ X:=by
 have z:∀ k d,d≠ℓ->L k=some ℓ->L k≠some d:=fun k d h1 hk e=>by rw [hk] at e;cases e;exact h1 rfl
 have n0:∀ d,(∀ y,d≠.sl y)->(∀ y,d≠.bl y)->d≠ℓ:=fun d a b e=>by rcases hℓ with h|h<;>rw [h] at e;exact a x e;exact b x e
 have n1:∀ d,d=Gb.mem\/d=.pq\/d=.pk\/d=.pc\/d=.pl\/d=.objs->d≠ℓ:=fun d hc=>n0 d (fun y e=>by rcases hc with h|h|h|h|h|h<;>rw [h] at e<;>cases e) (fun y e=>by rcases hc with h|h|h|h|h|h<;>rw [h] at e<;>cases e)
 obtain ⟨T1,m1⟩:=h.mem;obtain ⟨T2,cs,m2,n2⟩:=h.ob;refine ⟨fun k hk=>Nat.lt_of_lt_of_le (h.lt k hk) hP.size,⟨T1,hP.row m1 (fun y=>z _ .mem (n1 _ (by simp)) y h.Lm)⟩,h.Lm,h.pool.dA hP (fun y=>z _ .pq (n1 _ (by simp)) y h.Lq) (fun y=>z _ .pk (n1 _ (by simp)) y h.Lk) (fun y=>z _ .pc (n1 _ (by simp)) y h.Lc) (fun y=>z _ .pl (n1 _ (by simp)) y h.Ll),h.Lq,h.Lk,h.Lc,h.Ll,
  ⟨T2,cs,hP.row m2 (fun y=>z _ .objs (n1 _ (by simp)) y h.Lo),fun i hi j hj=>?_⟩,h.Lo,fun k t hk=>?_⟩
 ·rw [n2 i hi j hj];show some (nT (ob (i:Int)) _ _ _ j)=some (nT (dZ ob x (some o') (i:Int)) _ _ _ j)
  by_cases e:(i:Int)=x
  ·rw [e,aY,ho]
   match j,hj with
   | 0,_=>show some (Value.int .i64 o.kind)=some (Value.int .i64 o'.kind);rw [e1]
   | 1,_=>show some (Value.int .i64 o.cls)=some (Value.int .i64 o'.cls);rw [e2]
   | 2,_=>rfl
   | 3,_=>rfl
   | 4,_=>rfl
   | j+5,hj=>omega
  rw [bD _ _ e]
 rcases aW hk with ⟨rfl,rfl⟩|⟨e,h0⟩
 ·exact h2
 exact (h.th k t h0).only hP (fun y hy=>⟨z y _ (n0 _ (fun _ e=>by cases e) (fun _ e=>by cases e)) hy,z y _ (fun e2=>by rcases hℓ with h|h<;>rw [h] at e2<;>cases e2;exact e rfl) hy,z y _ (fun e2=>by rcases hℓ with h|h<;>rw [h] at e2<;>cases e2;exact e rfl) hy⟩)
theorem bH.setSlot (h:bH w L hb ⟨P,ob⟩ X) {x:Int} {o:Th} (ho:ob x=some o) {g n cap:Nat} (hv:X.sv x=.slice (some ⟨g,0,none⟩) n cap) (s:Nat) (y:Int):bH (w.setCell ⟨g,s,none⟩ (.int .i64 y)) L hb ⟨P,dZ ob x (some (o.put s y))⟩ X:=by
 have k:=h.th x o ho;have h0:L g=some (.sl x):=k.Ls g (by rw [hv];rfl);have hP:aI (fun j=>L j=some (.sl x)) w (w.setCell ⟨g,s,none⟩ (.int .i64 y)):=(aI.refl _ w).set (.inl h0) _;have e:∀ (z:Nat) ℓ',ℓ'≠.sl x->L z=some ℓ'->¬ L z=some (.sl x):=fun z ℓ' h1 h2 h3=>by rw [h2] at h3;cases h3;exact h1 rfl
 refine h.aIB (o':=o.put s y) ho hP (.inl rfl) rfl rfl ⟨k.rb.dA hP (fun z d=>e z _ (by simp) (k.Lr z d)),k.Lr,?_,k.Ls,k.bl.dA hP (fun z d=>e z _ (by simp) (k.Lb z d)),k.Lb⟩;have h2:=k.sl;rw [hv] at h2 ⊢;exact h2.setAt s y
theorem bH.setBlock (h:bH w L hb ⟨P,ob⟩ X) {x:Int} {o:Th} (ho:ob x=some o) {g n cap:Nat} (hv:X.bv x=.slice (some ⟨g,0,none⟩) n cap) (s:Nat) (y:Int):bH (w.setCell ⟨g,s,none⟩ (.int .i64 y)) L hb ⟨P,dZ ob x (some (o.moved s y))⟩ X:=by
 have k:=h.th x o ho;have h0:L g=some (.bl x):=k.Lb g (by rw [hv];rfl);have hP:aI (fun j=>L j=some (.bl x)) w (w.setCell ⟨g,s,none⟩ (.int .i64 y)):=(aI.refl _ w).set (.inl h0) _;have e:∀ (z:Nat) ℓ',ℓ'≠.bl x->L z=some ℓ'->¬ L z=some (.bl x):=fun z ℓ' h1 h2 h3=>by rw [h2] at h3;cases h3;exact h1 rfl
 refine h.aIB (o':=o.moved s y) ho hP (.inr rfl) rfl rfl ⟨k.rb.dA hP (fun z d=>e z _ (by simp) (k.Lr z d)),k.Lr,k.sl.dA hP (fun z d=>e z _ (by simp) (k.Ls z d)),k.Ls,?_,k.Lb⟩;have h2:=k.bl;rw [hv] at h2 ⊢;exact h2.setAt s y
theorem bH.aOC (h:bH w L hb ⟨P,ob⟩ X) {q k c l v:Nat} {P':Pl} (hp:eH w q k c l P') (hn:∀ j,v<=j->L j=none) (v1:v<=q) (v2:v<=k) (v3:v<=c) (v4:v<=l) :
  ∃ L' X',bH (w.setCell ⟨hb,1,none⟩ (.pointer (some ⟨q,0,none⟩))) L' hb ⟨P',ob⟩ X'/\(∀ j,L' j≠none->L j≠none\/v<=j):=by
 obtain ⟨n1,n2,n3,n4,n5,n6⟩:=hp.ne;obtain ⟨_,_,_,_,_,_,_,_,_,f1,f2,f3,f4⟩:=hp.facts;obtain ⟨L',y⟩:∃ L':Nat->Option Gb,L'=fun j=>if j=q then some .pq else if j=k then some .pk else if j=c then some .pc else if j=l then some .pl else L j:=⟨_,rfl⟩;have h4:∀ j,L j≠none->¬ v<=j:=fun j hj e=>hj (hn j e);have z:∀ j,L j≠none->L' j=L j:=fun j hj=>by
  have:=h4 j hj;rw [y];simp only;rw [if_neg (by omega),if_neg (by omega),if_neg (by omega),if_neg (by omega)]
 have h3:∀ j,L' j≠none->L j≠none\/(v<=j/\j<w.heap.size):=fun j hj=>by
  rw [y] at hj;simp only at hj
  by_cases e1:j=q
  ·rw [e1];exact .inr ⟨v1,f1⟩
  rw [if_neg e1] at hj
  by_cases e2:j=k
  ·rw [e2];exact .inr ⟨v2,f2⟩
  rw [if_neg e2] at hj
  by_cases e3:j=c
  ·rw [e3];exact .inr ⟨v3,f3⟩
  rw [if_neg e3] at hj
  by_cases e4:j=l
  ·rw [e4];exact .inr ⟨v4,f4⟩
  rw [if_neg e4] at hj;exact .inl hj
 have hP:aI (fun j=>j=hb) w (w.setCell ⟨hb,1,none⟩ (.pointer (some ⟨q,0,none⟩))):=(aI.refl (fun j=>j=hb) w).set (p:=⟨hb,1,none⟩) (.inl rfl) _;have h5:=h4 hb (by rw [h.Lm];simp);have h0:∀ g ℓ,ℓ≠Gb.mem->L g=some ℓ->¬ g=hb:=fun g ℓ h1 h2 e=>by rw [e,h.Lm] at h2;cases h2;exact h1 rfl
 obtain ⟨T1,m1⟩:=h.mem;obtain ⟨T2,cs,m2,c2⟩:=h.ob;refine ⟨L',{ X with q:=q,k:=k,c:=c,l:=l },⟨fun j hj=>?_,⟨T1,m1.set 1 _⟩,jW z h.Lm,hp.dA hP (by omega) (by omega) (by omega) (by omega),?_,?_,?_,?_,⟨T2,cs,hP.row m2 (h0 _ _ (by simp) h.Lo),c2⟩,jW z h.Lo,fun j t hj=>?_⟩,fun j hj=>(h3 j hj).imp id (fun e=>e.1)⟩
 ·rcases h3 j hj with e|e
  ·exact Nat.lt_of_lt_of_le (h.lt j e) hP.size
  exact Nat.lt_of_lt_of_le e.2 hP.size
 ·rw [y];simp
 ·rw [y];simp [Ne.symm n1]
 ·rw [y];simp [Ne.symm n2,Ne.symm n4]
 ·rw [y];simp [Ne.symm n3,Ne.symm n5,Ne.symm n6]
 have d:=h.th j t hj;exact (GTh.mk (d.rb.dA hP (fun g hg=>h0 g _ (by simp) (d.Lr g hg))) d.Lr (d.sl.dA hP (fun g hg=>h0 g _ (by simp) (d.Ls g hg))) d.Ls (d.bl.dA hP (fun g hg=>h0 g _ (by simp) (d.Lb g hg))) d.Lb).lab z
end
set_option maxHeartbeats 6400000
section
variable {w0:World} {L:Nat->Option Gb} {hb:Nat} {M:Hp} {X:GX}
theorem aMK {wr:World} (h:bH w0 L hb M X) (hk:M.Ok) {o:Th} (h5:o.ok1) (hz:∀ s,gI o.slots s=0) {rv sv bv:Value} {bs:List Int} {Q:Pl} {i:Nat} (hi:(i:Int)=(M.least:Int)+1) (hl:M.least<192)
  (hs:dF M.P (aS o.slots.length) (aS o.slots.length).length=some (bs,Q)) (hO:aI (fun k=>L k≠none) w0 wr) (hG:bH wr L hb ⟨Q,M.ob⟩ X) (h6:Bls wr w0.heap.size rv o.refs) (h7:aK wr w0.heap.size sv o.slots) (h3:aK wr w0.heap.size bv bs)
  (d1:∀ g,rv.ownBlock=some g->sv.ownBlock≠some g/\bv.ownBlock≠some g) (d2:∀ g,sv.ownBlock=some g->bv.ownBlock≠some g) :
  Calls Tryz.prog 214 #[.pointer (some ⟨hb,0,none⟩),.int .i64 i] (wr.setCells X.og (i*5) [.int .i64 o.kind,.int .i64 o.cls,rv,sv,bv]).drew (fun e w'=>e=.returned (.tuple #[])/\
   lM w0 L hb (.tuple #[.int .i64 (M.add o).1,.int .i64 (M.add o).2.1]) (M.add o).2.2 (.returned (.tuple #[.int .i64 i,.int .i64 0])) w'):=by
 have h0:i<193:=by omega
 have hn:∀ k,w0.heap.size<=k->L k=none:=fun k hk=>by
  cases e:L k with
  | none=>rfl
  | some ℓ=>have:=h.lt k (by rw [e];simp);omega
 have h2:=hG.wJ [.int .i64 o.kind,.int .i64 o.cls,rv,sv,bv] (i*5);obtain ⟨L',X',q1,_,q3,q4⟩:=hG.setObj h0 { o with blocks:=bs } h6 h7 h3 hn d1 d2;have y:=hk.add h5 hz;have z:=aGk (o:=o) hl hs;rw [z] at y;have d:dZ M.ob ((M.least:Int)+1) (some { o with blocks:=bs }) ((M.least:Int)+1)=some { o with blocks:=bs }:=aY _ _ _;have h1:=y.aOI (o:={ o with blocks:=bs }) (M:=M);rw [<-hi] at y d h1;have h4:=y.aMr d;have hQ:Q.ok:=(dX hk.p (l:=aS o.slots.length) (fun m hm=>dM _ hm) _ (Nat.le_refl _) bs Q hs).ok;refine (aBJ _ q1.drew hQ h0 d h4).mono ?_;rintro e w' ⟨rfl,hg,ho⟩;refine ⟨rfl,?_⟩;rw [z,<-hi];rw [h1] at hg;refine ⟨rfl,L',X',hg,q4,((hO.trans h2 (fun x hx=>.inl (by rw [hx];simp))).drew).trans ho (fun x hx=>?_)⟩;exact q4 x (fun e=>by rw [e] at hx;rcases hx with h|h|h|h<;>cases h)
theorem aDv (w:World) (h:bH w0 L hb M X) (hk:M.Ok) (hw:Only [] w0 w) (o:Th) (ho:o.ok1) (hz:∀ s,gI o.slots s=0) (rv sv:Value) (d8:Bls w w0.heap.size rv o.refs) (e6:aK w w0.heap.size sv o.slots)
  (hd:∀ g,rv.ownBlock=some g->sv.ownBlock≠some g) (a:Bool) (ha:a=false->o.slots.length<=7) :
  Calls Tryz.prog 211 #[.pointer (some ⟨hb,0,none⟩),.agg #[.int .i64 o.kind,.int .i64 o.cls,rv,sv,.slice none 0 0],.bool a] w
   (lM w0 L hb (.tuple #[.int .i64 (M.add o).1,.int .i64 (M.add o).2.1]) (M.add o).2.2):=by
 refine aF fun R hR=>?_;obtain ⟨ra,rc,j0⟩:=d8.len;obtain ⟨sa,sc,j2⟩:=e6.len;have b6:=ho.le;obtain ⟨rn,j1⟩:∃ b,b=o.refs.length:=⟨_,rfl⟩;obtain ⟨n,hn⟩:∃ b,b=o.slots.length:=⟨_,rfl⟩;obtain ⟨kd,d4⟩:∃ b,b=o.kind:=⟨_,rfl⟩;obtain ⟨cl,d0⟩:∃ b,b=o.cls:=⟨_,rfl⟩;rw [<-j1] at j0;rw [<-hn] at j2;subst j0 j2;rw [<-d4,<-d0];have b1:=aA d8;have b4:=aA e6;have HD:=aA hd;have H:=aA h;have OK:=aA hk;have HW:=aA hw;have HN:=aA hn;have j7:=aA d4;have j5:=aA d0;have k9:=aA ho;have HZ:=aA hz;rw [<-hn] at b6 ha;have HA:=aA ha;have z1:Hid (Only [] w0 (w.alloc (.cells #[.int .i64 kd,.int .i64 cl,.slice ra rn rc,.slice sa n sc,.slice none 0 0] 217))):=hw.alloc _;have qJ:Hid (Row (w.alloc (.cells #[.int .i64 kd,.int .i64 cl,.slice ra rn rc,.slice sa n sc,.slice none 0 0] 217)) w.heap.size 217 [.int .i64 kd,.int .i64 cl,.slice ra rn rc,.slice sa n sc,.slice none 0 0]):=Row.new w _ [_,_,_,_,_];have g6:Hid (Bls (w.alloc (.cells #[.int .i64 kd,.int .i64 cl,.slice ra rn rc,.slice sa n sc,.slice none 0 0] 217)) w0.heap.size (.slice ra rn rc) o.refs):=b1.out.alloc _;have i1:Hid (aK (w.alloc (.cells #[.int .i64 kd,.int .i64 cl,.slice ra rn rc,.slice sa n sc,.slice none 0 0] 217)) w0.heap.size (.slice sa n sc) o.slots):=b4.out.alloc _;have b0:Hid (∀ g,(Value.slice ra rn rc).ownBlock=some g->w0.heap.size<=g/\g<w.heap.size):=fun g hg=>b1.out.own g hg;have b2:Hid (∀ g,(Value.slice sa n sc).ownBlock=some g->w0.heap.size<=g/\g<w.heap.size):=fun g hg=>b4.out.own g hg;have HX:Hid (w0.heap.size<=w.heap.size):=hw.size;have y9:w.heap.size<(w.alloc (.cells #[.int .i64 kd,.int .i64 cl,.slice ra rn rc,.slice sa n sc,.slice none 0 0] 217)).heap.size:=by simp
 clear h hk hw d8 e6 hd ho hz ha hn d4 d0 j1;go_in;go_wp2_with fail;generalize (w.alloc (.cells #[.int .i64 kd,.int .i64 cl,.slice ra rn rc,.slice sa n sc,.slice none 0 0] 217))=w1 at*;obtain ⟨y,hy⟩:∃ b,b=w.heap.size:=⟨_,rfl⟩;rw [<-hy] at qJ b0 b2 HX y9 ⊢;clear hy b1 b4 HW;have k6:=aA y9;clear y9;have x9:=aA (H.out.aN z1.out);have c0:=x9.out.cells.1;obtain ⟨og,d5⟩:∃ z,z=X.og:=⟨_,rfl⟩;rw [<-d5] at c0;have z3:=aA d5;clear d5;go_loopw [8] (fun iv wr=>∃ k:Nat,k<=192/\iv=.int .i64 ((k:Int)+1)/\w1=wr/\Hid (∀ j:Nat,j<k->M.ob ((j:Int)+1)≠none)) (fun iv _=>193 - (intOf iv).toNat)
 case atStart=>exact ⟨0,by omega,rfl,rfl,fun j hj=>by omega⟩
 case round=>
  obtain ⟨k,hk,rfl,rfl,HF⟩:=hrel
  by_cases z7:k<192
  ·have h7:(k:Int)+1<193:=by omega
   have h6:=aBK w1 x9.out (M:=M) OK.out ((k:Int)+1)
   cases x1:M.ob ((k:Int)+1) with
   | some o'=>
    rw [x1] at h6;replace h6:Calls Tryz.prog _ _ w1 (aO w1 (.bool true)):=h6;have z2:=aA x1;clear x1;obtain ⟨z,hz⟩:∃ z:Int,z=(k:Int)+1:=⟨_,rfl⟩;have HZ:=aA hz;rw [<-hz] at h7 h6 ⊢;have m2:0<=z:=by omega
    clear hz;go_wp2_with fail;refine h6.mono ?_;rintro e _ ⟨rfl,rfl⟩;go_wp2_with fail;refine ⟨⟨k+1,by omega,by have:=HZ.out;go_num,by trivial,fun j hj=>?_⟩,by have:=HZ.out;simp [intOf];omega⟩
    by_cases e:j=k
    ·rw [e,z2.out];simp
    exact HF.out j (by omega)
   | none=>
    rw [x1] at h6;replace h6:Calls Tryz.prog _ _ w1 (aO w1 (.bool false)):=h6;have z2:=aA x1;have a7:Hid (True->M.least=k):=fun _=>aAK z7 HF.out z2.out;have d1:decide ((193:Int)<=(k:Int)+1)=false:=by simp;omega
    have g3:=aA (nI w1 X.q X.k X.c X.l M.P x9.out.pool);have c1:=x9.out.cells.2.1;obtain ⟨i,hi⟩:∃ z,z=k+1:=⟨_,rfl⟩;have d2:((k:Int)+1)=(i:Int):=by omega
    have e8:Hid (True->(i:Int)=(M.least:Int)+1):=fun _=>by rw [a7.out trivial];exact d2.symm
    have e9:Hid (True->M.least<192):=fun _=>by rw [a7.out trivial];exact z7
    have l7:(i:Int)<193:=by omega
    have l8:(0:Int)<=(i:Int):=by omega
    rw [d2] at d1 h7 h6 ⊢;clear x1 HF d2 hi z7 a7 z2 hk;go_wp2_with fail;refine h6.mono ?_;rintro e _ ⟨rfl,rfl⟩;clear h6 h7;go_wp2_with fail;refine g3.out.mono ?_;rintro e w2 ⟨q',k',c',l',rfl,d6,y8,u1,u2,u3,u4⟩;have f5:Hid (Only [] w0 w2):=z1.out.trans y8 (by simp);have b5:=aA (y8.row qJ.out (by simp));have d3:w2.cell? ⟨y,3,none⟩=some (.slice sa n sc):=b5.out.cell 3 rfl;obtain ⟨_,_,_,_,_,_,_,_,_,v1,v2,v3,v4⟩:=d6.facts;have d:Hid (y<q'/\y<k'/\y<c'/\y<l'/\q'<w2.heap.size/\k'<w2.heap.size/\c'<w2.heap.size/\l'<w2.heap.size):=by
     have:=k6.out;refine ⟨?_,?_,?_,?_,?_,?_,?_,?_⟩<;>omega
    have f8:=aA d6;have g5:=aA (g6.out.only y8 (by simp));have i0:=aA (i1.out.only y8 (by simp));have g7:=aA (aHE w2 n b6 a HA.out);clear g3 z1 qJ g6 i1 d6 y8 u1 u2 u3 u4 v1 v2 v3 v4 c0 c1 x9;go_wp2_with fail;refine g7.out.mono ?_;rintro e w3 ⟨v7,rfl,b8,x3⟩;have f7:Hid (Only [] w0 w3):=f5.out.trans x3 (by simp);have g2:=aA (x3.row b5.out (by simp));have j9:=aA (f8.out.only x3 (by simp) (by simp) (by simp) (by simp));have k4:=aA (g5.out.only x3 (by simp));have k7:=aA (i0.out.only x3 (by simp));obtain ⟨g,gc,l6,i5,i6⟩:∃ g gc,v7=.slice (some ⟨g,0,none⟩) (aS n).length gc/\w2.heap.size<=g/\g<w3.heap.size:=by
     rcases b8.form with ⟨_,e⟩|⟨g,sc,e1,e2,e3,e4,_⟩
     ·have:=jU n;rw [e] at this;simp at this
     exact ⟨g,sc,e1,e2,e3⟩
    subst l6;have l4:=jU n;have l5:=wK n b6;obtain ⟨sn,d9⟩:∃ z,z=(aS n).length:=⟨_,rfl⟩;have g9:=aA b8;rw [<-d9] at l4 l5 g9 ⊢;have z4:=aA d9;have x6:Hid (w2.heap.size<=g/\g<w3.heap.size/\w2.heap.size<=w3.heap.size):=⟨i5,i6,x3.size⟩;obtain ⟨b3,i3⟩:∃ z,z=w3.heap.size:=⟨_,rfl⟩;have x8:=aA i3;clear g7 d9 b8 x3 f5 b5 f8 g5 i0 d3 i5 i6 i3;have g0:=aA (H.out.aN f7.out).pool;have h4:Hid (∀ z,w0.heap.size<=z->z≠X.k/\z≠X.c/\z≠X.l/\z≠X.q):=fun z hz=>by
     have a1:=H.out.lt X.k (by rw [H.out.Lk];simp);have a2:=H.out.lt X.c (by rw [H.out.Lc];simp);have a3:=H.out.lt X.l (by rw [H.out.Ll];simp);have a4:=H.out.lt X.q (by rw [H.out.Lq];simp);refine ⟨?_,?_,?_,?_⟩<;>omega
    go_wp2;go_loopw [11] (fun iv wr=>∃ (m:Nat) (bs:List Int) (Q:Pl) (bv:Value),m<=sn/\iv=.int .i64 m/\Hid (True->dF M.P (aS n) m=some (bs,Q))/\eH wr X.q X.k X.c X.l Q/\aK wr b3 bv bs/\Row wr y 217 [.int .i64 kd,.int .i64 cl,.slice ra rn rc,.slice sa n sc,bv]/\Only [X.k,X.c,X.l,y] w3 wr) (fun iv _=>sn - (intOf iv).toNat)
    case atStart=>exact ⟨0,[],M.P,.slice none 0 0,by omega,rfl,fun _=>rfl,g0.out,aK.nil _ _,g2.out,Only.refl _ _⟩
    case round=>
     clear g2 g0;obtain ⟨m,bs,Q,bv,hm,rfl,x7,hp,c9,a6,ho⟩:=hrel;have e5:=dX OK.out.p (l:=aS n) (fun m hm=>dM _ hm) m (by have:=z4.out;omega) bs Q (x7.out trivial);have c8:=e5.len;obtain ⟨ba,bc,i4⟩:=c9.len;rw [c8] at i4;subst i4;have k8:=aA e5.ok;have j4:=aA c8;have HP:=aA hp;have x5:=aA c9;have nY:=aA a6;have HO:=aA ho;have c7:aI (fun k=>kK (L k)) w0 wr:=(f7.out.xA).trans (ho.toP (S:=fun k=>k=X.k\/k=X.c\/k=X.l\/k=y) (fun x hx=>.inl (by simpa using hx))) (fun x hx=>by
      rcases hx with rfl|rfl|rfl|rfl
      ·exact .inl (.inr (.inl H.out.Lk))
      ·exact .inl (.inr (.inr (.inl H.out.Lc)))
      ·exact .inl (.inr (.inr (.inr H.out.Ll)))
      exact .inr HX.out)
     have h3:Hid (bH wr L hb ⟨Q,M.ob⟩ X):=bH.aCH (P:=M.P) (ob:=M.ob) H.out c7 hp;have a9:Hid (aI (fun k=>L k≠none) w0 wr):=c7.mono (fun x hx=>.inl (fun e=>by rw [e] at hx;rcases hx with h|h|h|h<;>cases h))
     clear hp c9 a6 ho c8 e5 c7
     by_cases l9:m<sn
     ·have h7:(m:Int)<sn:=by omega
      have m0:(0:Int)<=m:=by omega
      have z6:wr.drew.cell? ⟨g,m,none⟩=some (.int .i64 (gI (aS n) m)):=by
       rcases (g9.out.only HO.out (fun g' h0=>by
        cases h0
        have:=h4.out g (by have:=HX.out;have:=d.out;have:=x6.out;omega);have:=d.out;have:=x6.out;simp;omega)).form with ⟨e,_⟩|⟨g',c',e1,_,_,_,h5⟩
       ·cases e
       cases e1;exact h5 m (by have:=z4.out;omega)
      have e1:wr.drew.cell? ⟨hb,1,none⟩=some (.pointer (some ⟨X.q,0,none⟩)):=h3.out.cells.2.1;have z0:=aA (aGM wr.drew X.q X.k X.c X.l Q (HP.out.only ((Only.refl [] wr).drew) (by simp) (by simp) (by simp) (by simp)) k8.out (gI (aS n) m));obtain ⟨c,hc⟩:∃ z,z=gI (aS n) m:=⟨_,rfl⟩;rw [<-hc] at z6 z0;obtain ⟨r,hr⟩:∃ z,z=Q.alloc c:=⟨_,rfl⟩;rw [<-hr] at z0;have HR:=aA hr;have HC:=aA hc;obtain ⟨a1,er,Q1⟩:=r;have n1:hb∉[X.k,X.c,X.l]:=bH.notP (P:=M.P) (ob:=M.ob) H.out H.out.Lm (by simp) (by simp) (by simp) (by simp);have ng:g∉[X.k,X.c,X.l]:=by
       have:=h4.out g (by have:=HX.out;have:=d.out;have:=x6.out;omega);simp;omega
      clear hr hc;go_wp2;go_region_held3 (fun w'=>w'.cell? ⟨hb,1,none⟩=some (.pointer (some ⟨X.q,0,none⟩))/\w'.cell? ⟨g,m,none⟩=some (.int .i64 c))
       (first|(exact ⟨e1,z6⟩)|(exact ⟨x2.cell e1 n1,x2.cell z6 ng⟩))
       (first
        | (go_at_call 243;refine z0.out.mono ?_;rintro e w5 ⟨rfl,d7,x2⟩))
      have f9:Hid (eH w5 X.q X.k X.c X.l Q1):=d7;have b9:Only [X.k,X.c,X.l,y] w3 w5:=HO.out.drew.trans x2 (fun x hx=>.inl (by simp at hx;rcases hx with h|h|h<;>simp [h]))
      have a8:=aA b9;have a5:=h4.out y HX.out;have kG:Hid (Row w5 y 217 [.int .i64 kd,.int .i64 cl,.slice ra rn rc,.slice sa n sc,.slice ba m bc]):=x2.row (show Row wr.drew y _ _ from nY.out) (by simp;omega);have vH:Hid (aK w5 b3 (.slice ba m bc) bs):=(show aK wr.drew b3 (.slice ba m bc) bs from x5.out).only x2 (fun g' h0=>by
       have h1:=(x5.out.own g' h0).1;have h2:=h4.out g' (by have:=x8.out;have:=HX.out;have:=d.out;have:=x6.out;omega);simp;omega)
      have z5:Hid (bH w5 L hb ⟨Q1,M.ob⟩ X):=h3.out.drew.gJ x2 d7;have g8:Hid (aI (fun k=>L k≠none) w0 w5):=a9.out.drew.trans (h3.out.drew.aCI x2) (fun x hx=>.inl (fun e=>by rw [e] at hx;rcases hx with h|h|h|h<;>cases h))
      have i2:Hid (eH w5 q' k' c' l' M.P):=(j9.out.only b9 (by
        have:=h4.out q' (by have:=HX.out;have:=d.out;omega);have:=d.out;simp;omega) (by
        have:=h4.out k' (by have:=HX.out;have:=d.out;omega);have:=d.out;simp;omega) (by
        have:=h4.out c' (by have:=HX.out;have:=d.out;omega);have:=d.out;simp;omega) (by
        have:=h4.out l' (by have:=HX.out;have:=d.out;omega);have:=d.out;simp;omega))
      clear z0 d7 x2 b9 z6 e1 n1 ng nY x5 HO HP h3 a9
      by_cases he:er=0
      ·subst he;have c4:w5.cell? ⟨y,4,none⟩=_:=kG.out.cell 4 rfl;clear a5;go_wp2_with (at_builtin;refine bJ rfl _ _ rfl b3 _ _ rfl (vH.out.alloc _) w5.heap.size a1 rfl ?c1 ?c2 ?c3 ?c4)
       case c1=>exact (Row.new w5 _ [_]).cell 0 rfl
       case c2=>have:=j4.out;omega
       case c3=>have:=a8.out.size;have:=x8.out;simp;omega
       case c4=>
        intro v' w6 a0 z8 l3;obtain ⟨h8,h9,j3⟩:=a0.len;obtain ⟨nb,i8⟩:∃ z,z=(bs ++ [a1]).length:=⟨_,rfl⟩;rw [<-i8] at j3;subst j3;clear i8 l3;have x4:∀ x∈(Value.slice ba m bc).ownBlock.toList,b3<=x:=fun x hx=>(vH.out.own x (by simpa using hx)).1;have e7:y<b3:=by have:=x8.out;have:=d.out;have:=x6.out;omega
        have i9:∀ x,x=X.k\/x=X.c\/x=X.l\/x=X.q->x<b3:=fun x hx=>by
         have m1:w0.heap.size<=b3:=by have:=HX.out;omega
         rcases hx with rfl|rfl|rfl|rfl
         ·have:=H.out.lt X.k (by rw [H.out.Lk];simp);omega
         ·have:=H.out.lt X.c (by rw [H.out.Lc];simp);omega
         ·have:=H.out.lt X.l (by rw [H.out.Ll];simp);omega
         have:=H.out.lt X.q (by rw [H.out.Lq];simp);omega
        have z9:=z8.row (kG.out.alloc (.cells #[.int .i64 a1] 3)) (fun hx=>by have:=x4 _ hx;omega);have f6:=z9.free 4;have c6:w6.cell? ⟨y,4,none⟩=_:=z9.cell 4 rfl;have y7:∀ x,x=X.k\/x=X.c\/x=X.l\/x=X.q->x∉(Value.slice ba m bc).ownBlock.toList:=fun x hx hm'=>by have:=x4 _ hm';have:=i9 x hx;omega
        have y5:∀ x,x=X.k\/x=X.c\/x=X.l\/x=X.q->x∉[y]:=fun x hx=>by
         have h1:=h4.out y HX.out;rcases hx with rfl|rfl|rfl|rfl<;>(simp;omega)
        have k1:Hid (eH (w6.setCell ⟨y,4,none⟩ (.slice h8 nb h9)) X.q X.k X.c X.l Q1):=
         (((f9.out.only ((Only.refl [] w5).alloc (.cells #[.int .i64 a1] 3)) (by simp) (by simp) (by simp) (by simp)).only z8 (y7 _ (by simp)) (y7 _ (by simp)) (y7 _ (by simp)) (y7 _ (by simp))).only ((Only.refl [y] w6).set (p:=⟨y,4,none⟩) (.inl (by simp)) (.slice h8 nb h9)) (y5 _ (by simp)) (y5 _ (by simp)) (y5 _ (by simp)) (y5 _ (by simp)))
        have k2:Hid (aK (w6.setCell ⟨y,4,none⟩ (.slice h8 nb h9)) b3 (.slice h8 nb h9) (bs ++ [a1])):=a0.only ((Only.refl [y] w6).set (p:=⟨y,4,none⟩) (.inl (by simp)) (.slice h8 nb h9)) (fun g' h0=>by have:=(a0.own g' h0).1;simp;omega);have k3:Hid (Row (w6.setCell ⟨y,4,none⟩ (.slice h8 nb h9)) y 217 [.int .i64 kd,.int .i64 cl,.slice ra rn rc,.slice sa n sc,(.slice h8 nb h9)]):=z9.set 4 (.slice h8 nb h9);have j8:Hid (Only [X.k,X.c,X.l,y] w3 (w6.setCell ⟨y,4,none⟩ (.slice h8 nb h9))):=((a8.out.alloc _).trans z8 (fun x hx=>.inr (by have:=x4 _ hx;have:=x8.out;omega))).set (.inl (by simp)) _;have k5:Hid (True->dF M.P (aS n) (m+1)=some (bs ++ [a1],Q1)):=fun _=>by
         rw [iV (x7.out trivial),<-HC.out,<-HR.out];rfl
        clear a0 z8 x4 e7 i9 z9 y7 y5 f9 a8 kG vH c4 x7 z5 g8 i2;go_wp2;exact ⟨⟨m+1,bs ++ [a1],Q1,(.slice h8 nb h9),by omega,by go_num,k5,k1.out,k2.out,k3.out,j8.out⟩,by simp [intOf];omega⟩
      have b7:Hid (True->M.add o=(0,14,M)):=fun _=>aBY (k:=m+1) (by rw [<-HN.out,<-z4.out];omega) (by
       rw [<-HN.out,iV (x7.out trivial),<-HC.out,<-HR.out];show (if er=0 then _ else _)=_;rw [if_neg he])
      have i7:∀ k,w0.heap.size<=k->L k=none:=fun k hk=>by
       cases e:L k with
       | none=>rfl
       | some ℓ=>have:=H.out.lt k (by rw [e];simp);omega
      obtain ⟨L9,X9,q1,q2⟩:=z5.out.aOC i2.out i7 (by have:=HX.out;have:=d.out;omega) (by have:=HX.out;have:=d.out;omega) (by have:=HX.out;have:=d.out;omega) (by have:=HX.out;have:=d.out;omega);have j6:Hid (lM w0 L hb (.tuple #[.int .i64 0,.int .i64 14]) M (.returned (.tuple #[.int .i64 0,.int .i64 14])) (w5.setCell ⟨hb,1,none⟩ (.pointer (some ⟨q',0,none⟩)))):=
       lM.of (g8.out.set (p:=⟨hb,1,none⟩) (.inl (by show L hb≠none;rw [H.out.Lm];simp)) _) q1 q2
      have e1:w5.cell? ⟨hb,1,none⟩=some (.pointer (some ⟨X.q,0,none⟩)):=z5.out.cells.2.1;have ef:=z5.out.cells.2.2.1 1;clear i7 q1 q2 a5;go_wp2_with fail;refine hR.out _ _ ?_;rw [b7.out trivial];exact j6.out
     obtain rfl:m=sn:=by omega
     have h7:¬ (m:Int)<(m:Int):=by omega
     obtain ⟨m3,l1⟩:∃ z,z=X.og:=⟨_,rfl⟩;have e0:wr.cell? ⟨hb,0,none⟩=some (.slice (some ⟨og,0,none⟩) 193 X.oc):=by rw [z3.out];exact h3.out.cells.1
     have ef:∀ j,wr.frozen? ⟨og,j,none⟩=false:=by rw [z3.out];exact h3.out.cells.2.2.2
     have y6:i<193:=by omega
     have x1:M.ob (i:Int)=none:=by rw [e8.out trivial];exact M.oO (e9.out trivial)
     have o0:=h3.out.obj y6 (j:=0) (by omega);have o1:=h3.out.obj y6 (j:=1) (by omega);have o2:=h3.out.obj y6 (j:=2) (by omega);have o3:=h3.out.obj y6 (j:=3) (by omega);have o4:=h3.out.obj y6 (j:=4) (by omega);rw [show (⟨Q,M.ob⟩:Hp).ob (i:Int)=none from x1,<-z3.out] at o0 o1 o2 o3 o4;replace o0:wr.cell? ⟨og,i*5,none⟩=some (.int .i64 0):=o0;replace o1:wr.cell? ⟨og,i*5+1,none⟩=some (.int .i64 0):=o1;replace o2:wr.cell? ⟨og,i*5+2,none⟩=some (.slice none 0 0):=o2;replace o3:wr.cell? ⟨og,i*5+3,none⟩=some (.slice none 0 0):=o3;replace o4:wr.cell? ⟨og,i*5+4,none⟩=some (.slice none 0 0):=o4;have f0:=ef (i*5);have f1:=ef (i*5+1);have f2:=ef (i*5+2);have f3:=ef (i*5+3);have f4:=ef (i*5+4);have y0:wr.cell? ⟨y,0,none⟩=_:=nY.out.cell 0 rfl;have y1:wr.cell? ⟨y,1,none⟩=_:=nY.out.cell 1 rfl;have y2:wr.cell? ⟨y,2,none⟩=_:=nY.out.cell 2 rfl;have y3:wr.cell? ⟨y,3,none⟩=_:=nY.out.cell 3 rfl;have y4:wr.cell? ⟨y,4,none⟩=_:=nY.out.cell 4 rfl;have a5:=h4.out y HX.out;have e7:y<b3:=by have:=x8.out;have:=d.out;have:=x6.out;omega
     have c5:∀ g',(w0.heap.size<=g'/\g'<y)->g'∉[X.k,X.c,X.l,y]:=fun g' h0=>by
      have:=h4.out g' h0.1;simp;omega
     have g1:=aA (aMK (o:=o) (rv:=.slice ra rn rc) (sv:=.slice sa n sc) (bv:=.slice ba m bc) (i:=i) H.out OK.out k9.out HZ.out (e8.out trivial) (e9.out trivial) (bs:=bs) (Q:=Q) (by have:=x7.out trivial;rw [<-HN.out,<-z4.out];exact this) a9.out h3.out
      (k4.out.only HO.out (fun g' h0=>c5 g' (b0.out g' h0))) (k7.out.only HO.out (fun g' h0=>c5 g' (b2.out g' h0))) (x5.out.base (by have:=HX.out;omega))
      (fun g' h0=>⟨HD.out g' h0,fun e=>by have:=(x5.out.own g' e).1;have:=(b0.out g' h0).2;omega⟩) (fun g' h0 e=>by have:=(x5.out.own g' e).1;have:=(b2.out g' h0).2;omega))
     rw [<-z3.out,<-j7.out,<-j5.out] at g1;clear a5 e7 c5 x1 ef l1;go_wp2_with fail;go_region;go_wp2_with fail;refine g1.out.mono ?_;rintro e w9 ⟨rfl,g4⟩;have l0:=aA g4;clear g4;go_wp2;exact hR.out _ _ l0.out
  have h7:¬ (k:Int)+1<193:=by omega
  have d1:(193:Int)<=(k:Int)+1:=by omega
  have b7:Hid (M.add o=(0,14,M)):=aGl (aAL (fun j hj=>HF.out j (by omega)));obtain ⟨z,hz⟩:∃ z:Int,z=(k:Int)+1:=⟨_,rfl⟩;rw [<-hz] at h7 d1 ⊢;clear hz z7;go_wp2_with fail;refine hR.out _ _ ?_;rw [b7.out];exact lM.none0 H.out z1.out
end
end Go.Proofs.YthflghdaejbdkaaGreat
