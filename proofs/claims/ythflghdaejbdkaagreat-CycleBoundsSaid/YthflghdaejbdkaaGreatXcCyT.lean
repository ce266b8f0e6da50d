/- Lemmas of this claim. -/
import Derived.Test.YthflghdaejbdkaaGreatXcCyR
import Derived.Test.YthflghdaejbdkaaGreatXcCyStar
namespace Go.Proofs.YthflghdaejbdkaaGreat
open _root_.Go.Proofs.Tryz (prog)
open Go.RowKit Go.Maps
set_option maxHeartbeats 6400000
set_option maxRecDepth 100000
set_option linter.unusedVariables false
section
variable {w0 w:World} {l:List Asn} {b:Nat} {c:Co} {x:CX} {i:Nat}
theorem aMx (w:World) (z:Fam w0 w (C5 b c x ++ l)) (h:Int) (d:wfI h):Calls prog 300 #[.pointer (some ⟨x.hb,0,none⟩),.int .i64 h] w (fun e w'=>e=.returned (.int .i64 (c.m.M.release h).1)/\Fam w0 w' (C5 b (c.pI (c.m.put (c.m.M.release h).2)) x ++ l)):=
 z.aCF 0 rfl (M':=(c.m.M.release h).2) (fun y=>y.release h) (fun L X hr y=>aEr w hr y h d)
theorem aHO (w:World) (hf:Fam w0 w (C5 b c x ++ l)) (hx:x.ok c) (h:c.Okc) (hp:c.ph=3) {y:Int} {r:List Int} (e:c.sw=y :: r):Calls prog 299 #[.agg #[.int .i64 y],.pointer (some ⟨b,0,none⟩)] w (aBd w0 l b c.free):=by
 refine aF fun R hR=>?_;have F0:Hid (Fam w0 (w.alloc (.cells #[.int .i64 y] 160)) (C5 b c x ++ (l ++ [eG w.heap.size 160 [.int .i64 y]]))):=hf.addRow 160 [.int .i64 y];have h8:Hid (wfI y):=aIA (h.hf.ok.inR (h.su y (by rw [e];exact List.mem_cons_self)));have y2:=kS h.hf.ok y;have x2:=h.vK;rw [e,List.length_cons] at x2;have HR:Hid (∀ w' v,Fam w0 w' (C5 b { c with sw:=r,m:=c.m.put (c.m.M.release y).2 } { x with sv:=v } ++ l)->R (.returned (.int .i64 (1+((c.m.M.blocks y).1.length:Int)))) w'):=fun w' v h2=>hR.out _ _ (by
  unfold Co.free;rw [e];exact ⟨rfl,{ x with sv:=v },⟨fun e=>absurd (show c.ph=2 from e) (by omega),fun e=>absurd (show c.ph=4 from e) (by omega),hx.mv2⟩,h2⟩)
 have HE:=aA e;clear hf h hR hx hp e;go_in;go_upto_region 1 with fail;obtain ⟨g,hg⟩:∃ g,g=w.heap.size:=⟨_,rfl⟩;rw [<-hg] at F0 ⊢;generalize w.alloc (.cells #[.int .i64 y] 160)=w1 at*;clear hg;have HC:Hid (∀ wx,Only [] w1 wx->Calls prog 115 #[.pointer (some ⟨x.hb,0,none⟩),.int .i64 y] wx (aNO wx (c.m.M.blocks y))):=fun wx ho=>by
  obtain ⟨hk,L,X,hp⟩:=C5.ph (F0.out.aN ho);exact oZ wx hp hk y h8.out
 generalize h9:(c.m.M.blocks y).1.length=bn at*;have x4:=aA h9;clear h9;have h7:Hid (Only [] w1 w1.drew):=(Only.refl [] w1).drew;go_region_held3 (fun w'=>w'.cell? ⟨b,2,none⟩=some (.pointer (some ⟨x.hb,0,none⟩))/\w'.cell? ⟨g,0,none⟩=some (.int .i64 y))
  (first|(exact ⟨(C5.row F0.out).cell 2 rfl,(C5.last F0.out).cell 0 rfl⟩)|(exact ⟨(C5.row F2.out).cell 2 rfl,(C5.last F2.out).cell 0 rfl⟩))
  (first|(go_at_call 115;refine (HC.out _ h7.out).mono ?_;rintro e w2 ⟨v,rfl,hi,ho⟩;obtain ⟨va,vc,rfl⟩:=hi.len;rw [x4.out] at*;have F2:=aA (F0.out.drew.aN ho);clear hi ho))
 clear HC F0 h7;obtain ⟨_,_,_,_,_,_,_,_,x8,_,xf⟩:=dB.cells F2.out;have y0:=xf 8;have hs:=C5.sw F2.out;rw [HE.out] at hs;obtain ⟨sa,sc,hv⟩:=hs.len;rw [hv] at x8 hs;have HS:=aA hs;obtain ⟨sb,so,rfl,x7⟩:=hs.read.at (k:=0) (by simp);replace x8:w2.cell? ⟨b,8,none⟩=some (.slice (some ⟨sb,so,none⟩) (r.length+1) sc):=x8;have x3:r.length+1<=sc:=by
  rcases hs.form with ⟨h1,_⟩|⟨g,cap,h1,_,_,h3,_⟩
  ·cases h1
  simp only [Value.slice.injEq] at h1;obtain ⟨_,_,rfl⟩:=h1;exact h3
 have CL:Hid (∀ o' cc,(o'=so+1\/r.length=0)->Calls prog 80 #[.slice (some ⟨sb,o',none⟩) r.length cc] w2 (fun e w'=>∃ v,e=.returned v/\aK w' w2.heap.size v r/\Only [] w2 w')):=fun o' cc ho=>by
  refine (zV w2 sb o' r.length cc r rfl (by omega) (fun k hk=>?_)).mono (fun e w' ⟨v,h1,h2,h3,_⟩=>⟨v,h1,h2,h3⟩);rcases ho with rfl|h0
  ·obtain ⟨b2,o2,e2,h4⟩:=HS.out.read.at (k:=k+1) (by simp;omega)
   cases e2
   rw [show so+1+k=so+(k+1) by omega,h4];simp [gI]
  omega
 have x5:=aA (rfl:r.length=r.length);clear hs hv x7 HS xf;obtain ⟨n,hn⟩:∃ n,n=r.length:=⟨_,rfl⟩;rw [<-hn] at x8 CL x3 x2;clear x5 hn;go_wp2_with fail
 all_goals (
  refine (CL.out _ _ (by first|exact .inl rfl|(right;omega))).mono ?_;rintro e w3 ⟨v0,rfl,h5,h6⟩;obtain ⟨z,d,x9⟩:=h5.len;subst x9;obtain ⟨n1,x1⟩:∃ n,n=r.length:=⟨_,rfl⟩;rw [<-x1] at h5 ⊢;clear x1;have F3:Hid (Fam w0 (w3.setCell ⟨b,8,none⟩ (.slice z n1 d)) (C5 b { c with sw:=r } { x with sv:=.slice z n1 d } ++ (l ++ [eG g 160 [.int .i64 y]]))):=C5.aGz F2.out h6 h5;have y1:=((dB.cells (F2.out.aN h6)).2.2.2.2.2.2.2.2.2.2) 8;have x6:=(dB.cells (F2.out.aN h6)).2.2.2.2.2.2.2.2.1;clear h5 h6 x8 y0 CL F2;go_upto_region 3 with fail;generalize w3.setCell ⟨b,8,none⟩ (.slice z n1 d)=w4 at*;clear y1 x6;have HC:Hid (∀ wx,Fam w0 wx (C5 b { c with sw:=r } { x with sv:=.slice z n1 d } ++ (l ++ [eG g 160 [.int .i64 y]]))->Calls prog 300 #[.pointer (some ⟨x.hb,0,none⟩),.int .i64 y] wx (fun e w'=>e=.returned (.int .i64 (c.m.M.release y).1)/\Fam w0 w' (C5 b { c with sw:=r,m:=c.m.put (c.m.M.release y).2 } { x with sv:=.slice z n1 d } ++ (l ++ [eG g 160 [.int .i64 y]])))):=fun wx hx=>aMx wx hx y h8.out;go_region_held3 (fun w'=>w'.cell? ⟨b,2,none⟩=some (.pointer (some ⟨x.hb,0,none⟩))/\w'.cell? ⟨g,0,none⟩=some (.int .i64 y))
   (first|(exact ⟨(C5.row F3.out).cell 2 rfl,(C5.last F3.out).cell 0 rfl⟩)|(exact ⟨(C5.row f5).cell 2 rfl,(C5.last f5).cell 0 rfl⟩))
   (first|(go_at_call 300;refine (HC.out _ F3.out.drew).mono ?_;rintro e w5 ⟨rfl,f5⟩))
  have F6:Hid (Fam w0 w5 (C5 b { c with sw:=r,m:=c.m.put (c.m.M.release y).2 } { x with sv:=.slice z n1 d } ++ l)):=by
   have f6:Fam w0 w5 ((C5 b { c with sw:=r,m:=c.m.put (c.m.M.release y).2 } { x with sv:=.slice z n1 d } ++ l) ++ [eG g 160 [.int .i64 y]]):=f5;exact f6.pop
  clear f5 F3 HC;go_wp2_with fail;exact HR.out _ _ F6.out)
theorem aKa (w:World) (z:Fam w0 w (C5 b c x ++ l)):Calls prog 309 #[.pointer (some ⟨x.hb,0,none⟩)] w (fun e w'=>e=.returned (.tuple #[.int .i64 c.m.M.move.1,.int .i64 c.m.M.move.2.1])/\Fam w0 w' (C5 b (c.pI (c.m.put c.m.M.move.2.2)) x ++ l)):=
 z.aCF 0 rfl (M':=c.m.M.move.2.2) (fun y=>y.move) (fun L X hr y=>aKb w hr y)
theorem aEL (w:World) (y:Fam w0 w (C5 b c x ++ l)):Calls prog 128 #[.pointer (some ⟨x.hb,0,none⟩)] w (fun e w'=>∃ q,e=.returned (.pointer (some ⟨q,0,none⟩))/\Only [] w w'/\Fam w0 w' (C5 b c x ++ (l ++ [PH q c.m.M]))):=by
 obtain ⟨hk,L,X,hp⟩:=C5.ph y;have z:=y.phF 0 rfl;refine (aDi w hp hk).mono ?_;rintro e w' ⟨q,L',X',he,h1,h2,d⟩;exact ⟨q,he,d,y.add (aOq h1 z h2 d)⟩
theorem C5.aQg {q:Nat} {M:Hp} (y:Fam w0 w (C5 b c x ++ (l ++ [PH q M]))):M.Ok/\∃ L X,dK w L q M X:=by
 refine y.ph (5+l.length) ?_;have z:(C5 b c x).length=5:=rfl;rw [List.getElem?_append_right (by omega),List.getElem?_append_right (by omega),show 5+l.length - (C5 b c x).length - l.length=0 by omega];rfl
theorem aMl (M:Hp):M.move.2.1=M.P.move.2.2.1:=by
 unfold Hp.move;split
 ·rename_i e;split
  ·rw [e]
  rw [e]
 rfl
theorem aKP {M:Hp} (y:M.P.move.2.2.1≠0):M.move=(0,M.P.move.2.2.1,M):=by unfold Hp.move;rw [if_neg y]
theorem aHf (w:World) (hf:Fam w0 w (C5 b c x ++ l)) (hx:x.ok c) (h:c.Okc) (hp:c.ph=4) (hm:c.mv≠8*c.pages):Calls prog 308 #[.agg #[],.pointer (some ⟨b,0,none⟩)] w (aBd w0 l b c.move):=by
 refine aF fun R hR=>?_;have F0:Hid (Fam w0 (w.alloc (.cells #[] 219)) (C5 b c x ++ l)):=C5.alloc hf _
 by_cases he:c.m.M.P.move.2.2.1=0
 ·obtain ⟨y,o,ho,h9,y6,z9,x6,x4⟩:=h.hf.aCV he;have b4:=hx.mv hp;have b5:=h.mv;have c4:=h.pg;have y7:Hid (wfI y):=aIA (h.hf.ok.hr y o ho);have e0:=h.hf.ok.aAu ho;have x7:=oN h.hf.ok.p he;have b6:=h.hf.ok.n24;have x3:Hid (c.move=(4+(bsz (c.m.M.P.class (c.m.M.P.move.1.tdiv 16)).1:Int),{ c with m:=c.m.put c.m.M.move.2.2,mv:=c.mv+1 })):=by
   show _=_;unfold Co.move;rw [if_neg (fun e=>by rcases e with e|e;exact hm e;exact e he)]
  have HR:Hid (∀ w',Fam w0 w' (C5 b { c with m:=c.m.put c.m.M.move.2.2,mv:=c.mv+1 } { x with mv:=c.mv+1 } ++ l)->R (.returned (.int .i64 (4+(bsz (c.m.M.P.class (c.m.M.P.move.1.tdiv 16)).1:Int)))) w'):=fun w' h2=>hR.out _ _ (by
   rw [x3.out];exact ⟨rfl,{ x with mv:=c.mv+1 },⟨fun e=>absurd (show c.ph=2 from e) (by omega),fun e=>rfl,by show c.mv+1<=192;omega⟩,h2⟩)
  have h7:c.m.M.move.1=y:=by rw [y6]
  have h8:c.m.M.move.2.1=0:=by rw [y6]
  have x8:Hid ((c.m.M.blocks y).1=o.blocks):=by show _=_;unfold Hp.blocks;rw [ho]
  have h5:Hid ((c.m.M.move.2.2.blocks y).1=o.blocks.set (o.place c.m.M.P.move.1) c.m.M.P.move.2.1):=by show _=_;unfold Hp.blocks;rw [z9];rfl
  have y3:(c.m.M.P.class (c.m.M.P.move.1.tdiv 16)).1<=2:=wS h.hf.ok.p _;have a7:=h.hf.move;rw [<-x4] at y3;have y8:0<=(c.m.M.move.2.2.P.class (c.m.M.P.move.2.1.tdiv 16)).1:=by
   rw [x4];have hb:=h.hf.ok.bk y o ho _ h9;have hc:=h.hf.ok.isC ho (m:=o.place c.m.M.P.move.1) h9;rw [Th.oJ h9] at hb;obtain ⟨i,k,e1,hh⟩:=hb;have d0:=hc.blk hh.kb;have hs:=hc.sz;have e4:=hh.hi;rw [e1,show (((16*i+k*bsz (gI (aS o.slots.length) (o.place c.m.M.P.move.1)):Nat):Int)).tdiv 16=(i:Int) by rw [Int.tdiv_eq_ediv_of_nonneg (by omega)];omega];unfold Pl.class;rw [if_neg (by omega),Int.toNat_natCast,hh.cls];rcases hc with e|e|e<;>omega
  rw [<-x4] at HR;obtain ⟨k0,z2⟩:∃ k,k=o.place c.m.M.P.move.1:=⟨_,rfl⟩;obtain ⟨z,a5⟩:∃ t,t=c.m.M.P.move.2.1:=⟨_,rfl⟩;rw [<-z2] at h9 x6 h5;rw [<-a5] at x6 h5 x7 y3 y8 HR;obtain ⟨cl,y1⟩:∃ k,k=(c.m.M.move.2.2.P.class (z.tdiv 16)).1:=⟨_,rfl⟩;have a8:=aA y1;rw [<-y1] at y3 y8 HR;have b7:0<=z:=x7.2.2.1;have d7:z<384:=by have:=x7.2.2.2.2.1;omega
  have e5:k0<7:=by omega
  have a9:Hid (c.mv<=191):=by show c.mv<=191;omega
  clear hf hR hx hp hm z9 y6 x4 ho z2 a5 y1 x7 b6 b5 c4 x3 a7;have HH:=aA h;clear h;generalize b9:o.blocks=bs at*;clear b9;go_in;go_upto_region 1 with fail;generalize w.alloc (.cells #[] 219)=w1 at*;have x2:=(dB.cells F0.out).2.2.1;have cc:=aEL w1 F0.out;go_wp2_with fail;refine cc.mono ?_;rintro e w2 ⟨q,rfl,h4,h0⟩;have F2:=aA h0;have y2:=(dB.cells h0).2.2.1;have cm:=aKa w2 h0;rw [h7,h8] at cm;clear cc h4 h0 x2 F0;go_wp2_with fail;refine cm.mono ?_;rintro e w3 ⟨rfl,h6⟩;have F3:Hid (Fam w0 w3 (C5 b { c with m:=c.m.put c.m.M.move.2.2 } x ++ (l ++ [PH q c.m.M]))):=h6;obtain ⟨_,_,_,_,_,_,_,_,_,x9,xf⟩:=dB.cells F3.out;rw [b4] at x9;have c8:=xf 9;have F4:Hid (Fam w0 (w3.setCell ⟨b,9,none⟩ (.int .i64 ((c.mv+1:Nat):Int))) (C5 b { c with m:=c.m.put c.m.M.move.2.2,mv:=c.mv+1 } { x with mv:=c.mv+1 } ++ (l ++ [PH q c.m.M]))):=C5.aLR F3.out (c.mv+1);have d8:=a9.out;clear cm h6 xf y2 F2;generalize d6:c.mv=mv at*;go_upto_region 6 with fail;have x1:((mv:Int)+1)=((mv+1:Nat):Int):=by omega
  rw [x1];generalize w3.setCell ⟨b,9,none⟩ (.int .i64 ((mv+1:Nat):Int))=w4 at*;clear x9 c8 F3 x1;obtain ⟨z5,Lq,Xq,hq⟩:=C5.aQg F4.out;have c1:=oZ w4 hq z5 y y7.out;clear z5 hq;go_wp2_with fail;refine c1.mono ?_;rintro e w5 ⟨v1,rfl,z1,z7⟩;have F5:=aA (F4.out.aN z7);obtain ⟨z3,L5,X5,a0⟩:=C5.ph F5.out;have x2:=(dB.cells F5.out).2.2.1;have c2:=oZ w5 a0 z3 y y7.out;have y0:=aA z1;clear c1 z1 z7 z3 a0 F4;go_wp2_with fail;refine c2.mono ?_;rintro e w6 ⟨v2,rfl,y4,h4⟩;have F6:=aA (F5.out.aN h4);have b3:Hid (∀ wx,Only [] w6 wx->pR wx v1 bs/\pR wx v2 (bs.set k0 z)):=fun wx ho=>by
   have h1:=(y0.out.only h4 (by simp)).only ho (by simp);have h2:=y4.only ho (by simp);rw [x8.out] at h1;have h3:(({ c with m:=c.m.put c.m.M.move.2.2,mv:=mv+1 }:Co).m.M.blocks y).1=bs.set k0 z:=h5.out;rw [h3] at h2;exact ⟨h1.read,h2.read⟩
  obtain ⟨n,hn⟩:∃ n,n=bs.length:=⟨_,rfl⟩;have HN:=aA hn;obtain ⟨e7,e9,c6⟩:∃ a c,v2=.slice a n c:=by
   obtain ⟨a,c9,e⟩:=y4.len;have h3:(({ c with m:=c.m.put c.m.M.move.2.2,mv:=mv+1 }:Co).m.M.blocks y).1=bs.set k0 z:=h5.out;rw [h3,List.length_set,<-hn] at e;exact ⟨a,c9,e⟩
  obtain ⟨e6,e8,c5⟩:∃ a c,v1=.slice a n c:=by
   obtain ⟨a,c9,e⟩:=y0.out.len;rw [x8.out,<-hn] at e;exact ⟨a,c9,e⟩
  subst c5 c6;have d4:(z != gI bs k0)=true:=by simpa using x6
  rw [<-hn] at h9;clear c2 y4 h4 y0 F5 x2 x8 h5 hn h7 h8 x6;go_wp2_with fail;have HZ:=aA (Only.refl [] w6);go_loopw [58] (fun iv wr=>∃ k:Nat,k<=k0/\iv=.int .i64 k/\Only [] w6 wr) (fun iv _=>8 - (intOf iv).toNat)
  case atStart=>exact ⟨0,by omega,rfl,HZ.out⟩
  case round=>as_aux_lemma=>
   clear HZ;obtain ⟨k,hk,rfl,ho⟩:=hrel;have HO:=aA ho;have y5:k<bs.length:=by rw [<-HN.out];omega
   obtain ⟨a3,a4⟩:=b3.out wr ho;obtain ⟨b1,o1,rfl,h1⟩:=a3.at y5;obtain ⟨b2,o2,rfl,h2⟩:=a4.at (k:=k) (by rw [List.length_set];exact y5);rw [rX (by rw [<-HN.out];omega)] at h2;have d2:(k:Int)<(n:Int):=by omega
   have d1:(0:Int)<=(k:Int):=by omega
   clear ho a3 a4 y5
   by_cases z4:k=k0
   ·subst z4;rw [if_pos rfl] at h2;generalize gI bs k=c7 at*;have F7:=aA (F6.out.aN HO.out);obtain ⟨c3,L7,X7,a1⟩:=C5.ph F7.out;have x2:=(dB.cells F7.out).2.2.1;have cp:=aJW wr a1;have hd:(z.tdiv 16)=z.tdiv 16:=rfl;obtain ⟨d,x5⟩:∃ d,d=z.tdiv 16:=⟨_,rfl⟩;have e2:0<=d/\d<=24:=by rw [x5,Int.tdiv_eq_ediv_of_nonneg b7];omega
    have b8:Hid ((({ c with m:=c.m.put c.m.M.move.2.2,mv:=mv+1 }:Co).m.M.P.class d).1=cl):=by rw [x5];exact a8.out.symm
    have d5:z.tdiv 16=d:=x5.symm;clear c3 a1 hd x5;go_wp2_with fail;refine cp.mono ?_;rintro e w8 ⟨p',b',rfl,a2,z8,_,_⟩;have b0:Hid (Only [] w6 w8):=HO.out.trans z8 (by simp);have y9:=aEY w8 p' b' _ a2 d;rw [b8.out] at y9;clear cp z8 a2 x2;generalize (({ c with m:=c.m.put c.m.M.move.2.2,mv:=mv+1 }:Co).m.M.P.class d).2=ce at*;have F8:Hid (Fam w0 w8 (C5 b { c with m:=c.m.put c.m.M.move.2.2,mv:=mv+1 } { x with mv:=mv+1 } ++ l)):=by
     have f8:Fam w0 w8 ((C5 b { c with m:=c.m.put c.m.M.move.2.2,mv:=mv+1 } { x with mv:=mv+1 } ++ l) ++ [PH q c.m.M]):=F6.out.aN b0.out;exact f8.pop
    have c0:cl=0\/cl=1\/cl=2:=by omega
    rcases c0 with rfl|rfl|rfl
    all_goals
     go_wp2_with fail;refine y9.mono ?_;rintro e _ ⟨rfl,rfl⟩;go_wp2_with fail;exact HR.out _ F8.out
   rw [if_neg z4] at h2;generalize gI bs k=c7 at*;have d3:k<k0:=by omega
   go_wp2;exact ⟨⟨k+1,by omega,by go_num,HO.out⟩,by simp [intOf];omega⟩
 have z6:=aKP he;have x3:Hid (c.move=(1,{ c with ph:=0,cr:=0 })):=by
  show _=_;unfold Co.move;rw [if_pos (.inr he)]
 have HX:=aA hx;have e3:(c.m.M.P.move.2.2.1 != 0)=true:=by simpa using he
 have h7:c.m.M.move.2.1=c.m.M.P.move.2.2.1:=aMl _;have h8:c.m.put c.m.M.move.2.2=c.m:=by rw [z6];rfl
 rw [x3.out] at hR;clear hf h hx hp hm he z6;go_in;go_upto_region 1 with fail;generalize w.alloc (.cells #[] 219)=w1 at*;have x2:=(dB.cells F0.out).2.2.1;have cc:=aEL w1 F0.out;go_wp2_with fail;refine cc.mono ?_;rintro e w2 ⟨q,rfl,h4,h0⟩;have F2:=aA h0;have y2:=(dB.cells h0).2.2.1;have cm:=aKa w2 h0;rw [h7,h8] at cm;clear cc h4 h0 x2 F0 h7 h8;generalize c.m.M.P.move.2.2.1=er at*;generalize c.m.M.move.1=d9 at*;go_wp2_with fail;refine cm.mono ?_;rintro e w3 ⟨rfl,h6⟩;have F3:Hid (Fam w0 w3 (C5 b c x ++ (l ++ [PH q c.m.M]))):=h6;have cb:=aAc w3 F3.out HX.out;clear cm h6 y2 F2;go_wp2_with fail;refine cb.mono ?_;rintro e w4 ⟨rfl,x',a6,z0⟩;have HE:Hid (aBd w0 l b (1,{ c with ph:=0,cr:=0 }) (.returned (.int .i64 1)) w4):=⟨rfl,x',a6,by
  have f5:Fam w0 w4 ((C5 b { c with ph:=0,cr:=0 } x' ++ l) ++ [PH q c.m.M]):=z0;exact f5.pop⟩
 clear cb a6 z0 F3;go_wp2;exact hR.out _ _ HE.out
end
def aIv (w0:World) (l:List Asn) (b:Nat) (r:Int×Int×Co) (e:Ending) (w':World):Prop:=e=.returned (.tuple #[.int .i64 r.1,.int .i64 r.2.1])/\∃ y:CX,y.ok r.2.2/\Fam w0 w' (C5 b r.2.2 y ++ l)
section
variable {w0 w:World} {l:List Asn} {b:Nat} {c:Co} {x:CX} {i:Nat}
theorem aCB (h:c.t.ph=0):c.refs=c.tail:=by
 have hs:c.t.step c.m=(0,0,13,c.t,c.m):=by unfold Tb.step;rw [if_pos h]
 have y:c.stepT=c:=by unfold Co.stepT;rw [hs]
 rw [Co.eY,hs,if_neg (show ¬ (13:Int)=0 by decide),y]
theorem aKM (w:World):Calls prog 41 #[.pointer none] w (aO w (.tuple #[.int .i64 0,.int .i64 1])):=by
 refine aF fun R z=>?_;have y:=sK w;go_in;go_wp2_with fail;refine y.mono ?_;rintro e _ ⟨rfl,rfl⟩;go_wp2;exact z.out _ _ ⟨rfl,rfl⟩
theorem aIT (z:c.ph=1) (y:c.m.list=[]):c.step=(c.iL.1,0,c.iL.2):=by
 unfold Co.step;rw [if_neg (show ¬ c.ph=0 by omega),if_pos z,if_pos y]
theorem aNc (w:World) (d:Fam w0 w (C5 b c x ++ l)) (hx:x.ok c) (h:c.Okc) (y:c.ph=1) (hl:c.m.list=[]):Calls prog 41 #[.pointer (some ⟨b,0,none⟩)] w (aIv w0 l b c.step):=by
 refine aF fun R hR=>?_;obtain ⟨_,_,x2,_,_,x5,_⟩:=dB.cells d;have cn:=aJ w x2;have z:=bP w d h hx (by omega);unfold Co.kJ at z;rw [if_pos y,if_pos hl] at z;rw [y] at x5;have HF:=aA d;have HX:=aA hx;have HH:=aA h;have HP:=aA y;have HL:=aA hl;have HR:Hid (∀ e w',aBd w0 l b c.iL e w'->∃ v,e=.returned v/\R (.returned (.tuple #[v,.int .i64 0])) w'):=fun e w' ⟨he,x',hx',hf'⟩=>⟨_,he,hR.out _ _ (by
  rw [aIT y hl];exact ⟨rfl,x',hx',hf'⟩)⟩
 clear d hx h hR y hl;go_in;go_wp2_with fail;refine cn.mono ?_;rintro e _ ⟨rfl,rfl⟩;clear cn;go_wp2_with fail;refine z.mono ?_;rintro e _ ⟨rfl,k,rfl⟩;have F1:=aA (HF.out.drewN k);generalize w.drewN k=w1 at*;have cd:=aFe w1 F1.out HX.out HH.out HP.out HL.out;clear z;go_wp2_with fail;refine cd.mono ?_;rintro e w2 hd;obtain ⟨v,rfl,hv⟩:=HR.out e w2 hd;have HV:=aA hv;clear hd hv cd;go_wp2_with fail;exact HV.out
theorem aIS (z:c.ph=1) (y:¬ c.m.list=[]):c.step=(c.mark.1,0,c.mark.2):=by
 unfold Co.step;rw [if_neg (show ¬ c.ph=0 by omega),if_pos z,if_neg y]
theorem aNb (w:World) (d:Fam w0 w (C5 b c x ++ l)) (hx:x.ok c) (h:c.Okc) (y:c.ph=1) (hl:¬ c.m.list=[]):Calls prog 41 #[.pointer (some ⟨b,0,none⟩)] w (aIv w0 l b c.step):=by
 refine aF fun R hR=>?_;obtain ⟨_,_,x2,_,_,x5,_⟩:=dB.cells d;have cn:=aJ w x2;have z:=bP w d h hx (by omega);unfold Co.kJ at z;rw [if_pos y,if_neg hl] at z;rw [y] at x5;have HF:=aA d;have HX:=aA hx;have HH:=aA h;have HP:=aA y;have HR:Hid (∀ e w',aBd w0 l b c.mark e w'->∃ v,e=.returned v/\R (.returned (.tuple #[v,.int .i64 0])) w'):=fun e w' ⟨he,x',hx',hf'⟩=>⟨_,he,hR.out _ _ (by
  rw [aIS y hl];exact ⟨rfl,x',hx',hf'⟩)⟩
 clear d hx h hR y hl;go_in;go_wp2_with fail;refine cn.mono ?_;rintro e _ ⟨rfl,rfl⟩;clear cn;go_wp2_with fail;refine z.mono ?_;rintro e _ ⟨rfl,k,rfl⟩;have F1:=aA (HF.out.drewN k);generalize w.drewN k=w1 at*;have cd:=tY w1 F1.out HX.out (HH.out.mo (.inl HP.out));clear z;go_wp2_with fail;refine cd.mono ?_;rintro e w2 hd;obtain ⟨v,rfl,hv⟩:=HR.out e w2 hd;have HV:=aA hv;clear hd hv cd;go_wp2_with fail;exact HV.out
theorem aOf (y:c.ph=2) (z:c.t.ph≠0):c.step=(c.refs.1,0,c.refs.2):=by
 unfold Co.step;rw [if_neg (show ¬ c.ph=0 by omega),if_neg (show ¬ c.ph=1 by omega),if_pos y]
theorem aNa (w:World) (d:Fam w0 w (C5 b c x ++ l)) (hx:x.ok c) (h:c.Okc) (y:c.ph=2) (hl:c.t.ph≠0):Calls prog 41 #[.pointer (some ⟨b,0,none⟩)] w (aIv w0 l b c.step):=by
 refine aF fun R hR=>?_;obtain ⟨_,_,x2,_,_,x5,_⟩:=dB.cells d;have cn:=aJ w x2;have z:=bP w d h hx (by omega);unfold Co.kJ at z;rw [if_neg (show ¬ c.ph=1 by omega),if_pos y,if_pos hl] at z;rw [y] at x5;have HF:=aA d;have HX:=aA hx;have HH:=aA h;have HP:=aA y;have HL:=aA hl;have HR:Hid (∀ e w',aBd w0 l b c.refs e w'->∃ v,e=.returned v/\R (.returned (.tuple #[v,.int .i64 0])) w'):=fun e w' ⟨he,x',hx',hf'⟩=>⟨_,he,hR.out _ _ (by
  rw [aOf y hl];exact ⟨rfl,x',hx',hf'⟩)⟩
 clear d hx h hR y hl;go_in;go_wp2_with fail;refine cn.mono ?_;rintro e _ ⟨rfl,rfl⟩;clear cn;go_wp2_with fail;refine z.mono ?_;rintro e _ ⟨rfl,k,rfl⟩;have F1:=aA (HF.out.drewN k);generalize w.drewN k=w1 at*;have cd:=aEt w1 F1.out HX.out HH.out HP.out HL.out;clear z;go_wp2_with fail;refine cd.mono ?_;rintro e w2 hd;obtain ⟨v,rfl,hv⟩:=HR.out e w2 hd;have HV:=aA hv;clear hd hv cd;go_wp2_with fail;exact HV.out
theorem aIR (z:c.ph=2) (d:c.t.ph=0) (y:c.m.list=[]):c.step=(c.gZ.1,0,c.gZ.2):=by
 unfold Co.step;rw [if_neg (show ¬ c.ph=0 by omega),if_neg (show ¬ c.ph=1 by omega),if_pos z,aCB d,Co.tail,if_pos y]
theorem aMZ (w:World) (d:Fam w0 w (C5 b c x ++ l)) (hx:x.ok c) (h:c.Okc) (y:c.ph=2) (ht:c.t.ph=0) (hl:c.m.list=[]):Calls prog 41 #[.pointer (some ⟨b,0,none⟩)] w (aIv w0 l b c.step):=by
 refine aF fun R hR=>?_;obtain ⟨_,_,x2,_,_,x5,_⟩:=dB.cells d;have cn:=aJ w x2;have z:=bP w d h hx (by omega);unfold Co.kJ at z;rw [if_neg (show ¬ c.ph=1 by omega),if_pos y,if_neg (fun e=>e ht),if_pos hl] at z;rw [y] at x5;have HF:=aA d;have HX:=aA hx;have HH:=aA h;have HP:=aA y;have HR:Hid (∀ e w',aBd w0 l b c.gZ e w'->∃ v,e=.returned v/\R (.returned (.tuple #[v,.int .i64 0])) w'):=fun e w' ⟨he,x',hx',hf'⟩=>⟨_,he,hR.out _ _ (by
  rw [aIR y ht hl];exact ⟨rfl,x',hx',hf'⟩)⟩
 clear d hx h hR y hl ht;go_in;go_wp2_with fail;refine cn.mono ?_;rintro e _ ⟨rfl,rfl⟩;clear cn;go_wp2_with fail;refine z.mono ?_;rintro e _ ⟨rfl,k,rfl⟩;have F1:=aA (HF.out.drewN k);generalize w.drewN k=w1 at*;have cd:=aAb w1 F1.out HX.out HH.out;clear z;go_wp2_with fail;refine cd.mono ?_;rintro e w2 hd;obtain ⟨v,rfl,hv⟩:=HR.out e w2 hd;have HV:=aA hv;clear hd hv cd;go_wp2_with fail;exact HV.out
theorem aIQ (z:c.ph=2) (d:c.t.ph=0) (y:¬ c.m.list=[]):c.step=(c.mark.1,0,c.mark.2):=by
 unfold Co.step;rw [if_neg (show ¬ c.ph=0 by omega),if_neg (show ¬ c.ph=1 by omega),if_pos z,aCB d,Co.tail,if_neg y]
theorem aMY (w:World) (d:Fam w0 w (C5 b c x ++ l)) (hx:x.ok c) (h:c.Okc) (y:c.ph=2) (ht:c.t.ph=0) (hl:¬ c.m.list=[]):Calls prog 41 #[.pointer (some ⟨b,0,none⟩)] w (aIv w0 l b c.step):=by
 refine aF fun R hR=>?_;obtain ⟨_,_,x2,_,_,x5,_⟩:=dB.cells d;have cn:=aJ w x2;have z:=bP w d h hx (by omega);unfold Co.kJ at z;rw [if_neg (show ¬ c.ph=1 by omega),if_pos y,if_neg (fun e=>e ht),if_neg hl] at z;rw [y] at x5;have HF:=aA d;have HX:=aA hx;have HH:=aA h;have HP:=aA y;have HR:Hid (∀ e w',aBd w0 l b c.mark e w'->∃ v,e=.returned v/\R (.returned (.tuple #[v,.int .i64 0])) w'):=fun e w' ⟨he,x',hx',hf'⟩=>⟨_,he,hR.out _ _ (by
  rw [aIQ y ht hl];exact ⟨rfl,x',hx',hf'⟩)⟩
 clear d hx h hR y hl ht;go_in;go_wp2_with fail;refine cn.mono ?_;rintro e _ ⟨rfl,rfl⟩;clear cn;go_wp2_with fail;refine z.mono ?_;rintro e _ ⟨rfl,k,rfl⟩;have F1:=aA (HF.out.drewN k);generalize w.drewN k=w1 at*;have cd:=tY w1 F1.out HX.out (HH.out.mo (.inr HP.out));clear z;go_wp2_with fail;refine cd.mono ?_;rintro e w2 hd;obtain ⟨v,rfl,hv⟩:=HR.out e w2 hd;have HV:=aA hv;clear hd hv cd;go_wp2_with fail;exact HV.out
theorem aIP (z:c.ph=3) (y:c.sw=[]):c.step=(((1,{ c with ph:=4,sw:=[],mv:=0 }):Int×Co).1,0,((1,{ c with ph:=4,sw:=[],mv:=0 }):Int×Co).2):=by
 unfold Co.step;rw [if_neg (show ¬ c.ph=0 by omega),if_neg (show ¬ c.ph=1 by omega),if_neg (show ¬ c.ph=2 by omega),if_pos z,Co.free,y]
theorem aMX (w:World) (d:Fam w0 w (C5 b c x ++ l)) (hx:x.ok c) (h:c.Okc) (y:c.ph=3) (hl:c.sw=[]):Calls prog 41 #[.pointer (some ⟨b,0,none⟩)] w (aIv w0 l b c.step):=by
 refine aF fun R hR=>?_;obtain ⟨_,_,x2,_,_,x5,_⟩:=dB.cells d;have cn:=aJ w x2;have z:=bP w d h hx (by omega);unfold Co.kJ at z;rw [if_neg (show ¬ c.ph=1 by omega),if_neg (show ¬ c.ph=2 by omega),if_pos y,hl] at z;rw [y] at x5;have HF:=aA d;have HX:=aA hx;have HH:=aA h;have HP:=aA y;have HL:=aA hl;have HR:Hid (∀ e w',aBd w0 l b ((1,{ c with ph:=4,sw:=[],mv:=0 }):Int×Co) e w'->∃ v,e=.returned v/\R (.returned (.tuple #[v,.int .i64 0])) w'):=fun e w' ⟨he,x',hx',hf'⟩=>⟨_,he,hR.out _ _ (by
  rw [aIP y hl];exact ⟨rfl,x',hx',hf'⟩)⟩
 clear d hx h hR y hl;go_in;go_wp2_with fail;refine cn.mono ?_;rintro e _ ⟨rfl,rfl⟩;clear cn;go_wp2_with fail;refine z.mono ?_;rintro e _ ⟨rfl,k,rfl⟩;have F1:=aA (HF.out.drewN k);generalize w.drewN k=w1 at*;have cd:=aFd w1 F1.out HX.out;clear z;go_wp2_with fail;refine cd.mono ?_;rintro e w2 hd;obtain ⟨v,rfl,hv⟩:=HR.out e w2 (by rw [HL.out] at hd;exact hd);have HV:=aA hv;clear hd hv cd;go_wp2_with fail;exact HV.out
theorem aIO (z:c.ph=3) {y:Int} {r:List Int} (d:c.sw=y :: r):c.step=(c.free.1,0,c.free.2):=by
 unfold Co.step;rw [if_neg (show ¬ c.ph=0 by omega),if_neg (show ¬ c.ph=1 by omega),if_neg (show ¬ c.ph=2 by omega),if_pos z]
theorem aMW (w:World) (hf:Fam w0 w (C5 b c x ++ l)) (hx:x.ok c) (h:c.Okc) (z:c.ph=3) {y:Int} {r:List Int} (hl:c.sw=y :: r):Calls prog 41 #[.pointer (some ⟨b,0,none⟩)] w (aIv w0 l b c.step):=by
 refine aF fun R hR=>?_;obtain ⟨_,_,x2,_,_,x5,_⟩:=dB.cells hf;have cn:=aJ w x2;have d:=bP w hf h hx (by omega);unfold Co.kJ at d;rw [if_neg (show ¬ c.ph=1 by omega),if_neg (show ¬ c.ph=2 by omega),if_pos z,hl] at d;rw [z] at x5;have HF:=aA hf;have HX:=aA hx;have HH:=aA h;have HP:=aA z;have HL:=aA hl;have HR:Hid (∀ e w',aBd w0 l b c.free e w'->∃ v,e=.returned v/\R (.returned (.tuple #[v,.int .i64 0])) w'):=fun e w' ⟨he,x',hx',hf'⟩=>⟨_,he,hR.out _ _ (by
  rw [aIO z hl];exact ⟨rfl,x',hx',hf'⟩)⟩
 clear hf hx h hR z hl;go_in;go_wp2_with fail;refine cn.mono ?_;rintro e _ ⟨rfl,rfl⟩;clear cn;go_wp2_with fail;refine d.mono ?_;rintro e _ ⟨rfl,k,rfl⟩;have F1:=aA (HF.out.drewN k);generalize w.drewN k=w1 at*;have cd:=aHO w1 F1.out HX.out HH.out HP.out HL.out;clear d;go_wp2_with fail;refine cd.mono ?_;rintro e w2 hd;obtain ⟨v,rfl,hv⟩:=HR.out e w2 hd;have HV:=aA hv;clear hd hv cd;go_wp2_with fail;exact HV.out
theorem aIN (z:c.ph=4) (y:c.mv=8*c.pages):c.step=(((1,{ c with ph:=0,cr:=0 }):Int×Co).1,0,((1,{ c with ph:=0,cr:=0 }):Int×Co).2):=by
 unfold Co.step;rw [if_neg (show ¬ c.ph=0 by omega),if_neg (show ¬ c.ph=1 by omega),if_neg (show ¬ c.ph=2 by omega),if_neg (show ¬ c.ph=3 by omega),Co.move,if_pos (.inl y)]
theorem aMV (w:World) (z:Fam w0 w (C5 b c x ++ l)) (hx:x.ok c) (h:c.Okc) (d:c.ph=4) (hl:c.mv=8*c.pages):Calls prog 41 #[.pointer (some ⟨b,0,none⟩)] w (aIv w0 l b c.step):=by
 refine aF fun R hR=>?_;obtain ⟨_,_,x2,_,_,x5,_⟩:=dB.cells z;have cn:=aJ w x2;have y:=bP w z h hx (by omega);unfold Co.kJ at y;rw [if_neg (show ¬ c.ph=1 by omega),if_neg (show ¬ c.ph=2 by omega),if_neg (show ¬ c.ph=3 by omega),if_pos hl] at y;rw [d] at x5;have HF:=aA z;have HX:=aA hx;have HH:=aA h;have HP:=aA d;have HR:Hid (∀ e w',aBd w0 l b ((1,{ c with ph:=0,cr:=0 }):Int×Co) e w'->∃ v,e=.returned v/\R (.returned (.tuple #[v,.int .i64 0])) w'):=fun e w' ⟨he,x',hx',hf'⟩=>⟨_,he,hR.out _ _ (by
  rw [aIN d hl];exact ⟨rfl,x',hx',hf'⟩)⟩
 clear z hx h hR d hl;go_in;go_wp2_with fail;refine cn.mono ?_;rintro e _ ⟨rfl,rfl⟩;clear cn;go_wp2_with fail;refine y.mono ?_;rintro e _ ⟨rfl,k,rfl⟩;have F1:=aA (HF.out.drewN k);generalize w.drewN k=w1 at*;have cd:=aAc w1 F1.out HX.out;clear y;go_wp2_with fail;refine cd.mono ?_;rintro e w2 hd;obtain ⟨v,rfl,hv⟩:=HR.out e w2 hd;have HV:=aA hv;clear hd hv cd;go_wp2_with fail;exact HV.out
theorem aOe (z:c.ph=4) (y:¬ c.mv=8*c.pages):c.step=(c.move.1,0,c.move.2):=by
 unfold Co.step;rw [if_neg (show ¬ c.ph=0 by omega),if_neg (show ¬ c.ph=1 by omega),if_neg (show ¬ c.ph=2 by omega),if_neg (show ¬ c.ph=3 by omega)]
theorem aMU (w:World) (z:Fam w0 w (C5 b c x ++ l)) (hx:x.ok c) (h:c.Okc) (hp:c.ph=4) (d:¬ c.mv=8*c.pages):Calls prog 41 #[.pointer (some ⟨b,0,none⟩)] w (aIv w0 l b c.step):=by
 refine aF fun R hR=>?_;obtain ⟨_,_,x2,_,_,x5,_⟩:=dB.cells z;have cn:=aJ w x2;have y:=bP w z h hx (by omega);unfold Co.kJ at y;rw [if_neg (show ¬ c.ph=1 by omega),if_neg (show ¬ c.ph=2 by omega),if_neg (show ¬ c.ph=3 by omega),if_neg d] at y;rw [hp] at x5;have HF:=aA z;have HX:=aA hx;have HH:=aA h;have HP:=aA hp;have HL:=aA d;have HR:Hid (∀ e w',aBd w0 l b c.move e w'->∃ v,e=.returned v/\R (.returned (.tuple #[v,.int .i64 0])) w'):=fun e w' ⟨he,x',hx',hf'⟩=>⟨_,he,hR.out _ _ (by
  rw [aOe hp d];exact ⟨rfl,x',hx',hf'⟩)⟩
 clear z hx h hR hp d;go_in;go_wp2_with fail;refine cn.mono ?_;rintro e _ ⟨rfl,rfl⟩;clear cn;go_wp2_with fail;refine y.mono ?_;rintro e _ ⟨rfl,k,rfl⟩;have F1:=aA (HF.out.drewN k);generalize w.drewN k=w1 at*;have cd:=aHf w1 F1.out HX.out HH.out HP.out HL.out;clear y;go_wp2_with fail;refine cd.mono ?_;rintro e w2 hd;obtain ⟨v,rfl,hv⟩:=HR.out e w2 hd;have HV:=aA hv;clear hd hv cd;go_wp2_with fail;exact HV.out
theorem aPa (w:World) (y:Fam w0 w (C5 b c x ++ l)) (hx:x.ok c) (z:c.ph=0):Calls prog 41 #[.pointer (some ⟨b,0,none⟩)] w (aIv w0 l b c.step):=by
 refine aF fun R hR=>?_;obtain ⟨_,_,x2,_,_,x5,_⟩:=dB.cells y;have d:=aJ w x2;rw [Co.mX z] at hR;rw [z] at x5;have HE:Hid (aIv w0 l b (0,13,c) (.returned (.tuple #[.int .i64 0,.int .i64 13])) w):=⟨rfl,x,hx,y⟩;clear y hx z;go_in;go_wp2_with fail;refine d.mono ?_;rintro e _ ⟨rfl,rfl⟩;clear d;go_wp2;exact hR.out _ _ HE.out
theorem jZ (w:World) (e:Fam w0 w (C5 b c x ++ l)) (hx:x.ok c) (h:c.Okc):Calls prog 41 #[.pointer (some ⟨b,0,none⟩)] w (aIv w0 l b c.step):=by
 rcases qW h with z|z|z|z|z
 ·exact aPa w e hx z
 ·by_cases d:c.m.list=[]
  ·exact aNc w e hx h z d
  exact aNb w e hx h z d
 ·by_cases ht:c.t.ph=0
  ·by_cases d:c.m.list=[]
   ·exact aMZ w e hx h z ht d
   exact aMY w e hx h z ht d
  exact aNa w e hx h z ht
 ·cases d:c.sw with
  | nil=>exact aMX w e hx h z d
  | cons y r=>exact aMW w e hx h z d
 by_cases d:c.mv=8*c.pages
 ·exact aMV w e hx h z d
 exact aMU w e hx h z d
theorem sG (w:World) (hf:Fam w0 w l) (hi:l[i]?=some (CoA b c)) (h:c.Okc):Calls prog 41 #[.pointer (some ⟨b,0,none⟩)] w (fun e w'=>e=.returned (.tuple #[.int .i64 c.step.1,.int .i64 c.step.2.1])/\Fam w0 w' (l.set i (CoA b c.step.2.2))):=by
 obtain ⟨x,hx,z⟩:=CoA.open hf hi;exact (jZ w z hx h).mono fun e w' ⟨he,x',d,y⟩=>⟨he,CoA.close d y (List.getElem?_eq_some_iff.1 hi).1⟩
end
end Go.Proofs.YthflghdaejbdkaaGreat
