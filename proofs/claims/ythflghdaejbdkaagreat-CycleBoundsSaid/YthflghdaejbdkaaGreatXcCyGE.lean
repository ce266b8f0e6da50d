/- Lemmas of this claim. -/
import Derived.Test.YthflghdaejbdkaaGreatXcCyGD
namespace Go.Proofs.YthflghdaejbdkaaGreat
open Go.RowKit Go.Maps
set_option maxHeartbeats 6400000
set_option maxRecDepth 100000
set_option linter.unusedVariables false
section
variable {w0 w w':World} {l:List Asn} {b:Nat} {c:Co} {x:GX5} {i:Nat} {m:Mk} {t:Tb}
theorem aHG (w:World):Calls Tryz.prog 110 #[.pointer none] w (aO w (.pointer none)):=by
 refine aF fun R y=>?_;go_in;go_wp2;exact y.out _ _ ⟨rfl,rfl⟩
theorem Fam.aNC {R A B C D:Asn} {L:List Asn} (h:Fam w0 w (R :: (L ++ [C] ++ [D] ++ [A] ++ [B]))):Fam w0 w ([A,B,C,D,R] ++ L):=by
 have d:∀ k,k<L.length->(R :: (L ++ [C] ++ [D] ++ [A] ++ [B]))[k+1]?=L[k]?:=fun k hk=>by
  rw [List.getElem?_cons_succ,List.getElem?_append_left (by simp;omega),List.getElem?_append_left (by simp;omega),List.getElem?_append_left (by simp;omega),List.getElem?_append_left hk]
 have e:(R :: (L ++ [C] ++ [D] ++ [A] ++ [B]))[L.length+1]?=some C:=by
  rw [List.getElem?_cons_succ,List.getElem?_append_left (by simp),List.getElem?_append_left (by simp),List.getElem?_append_left (by simp)];simp
 have e2:(R :: (L ++ [C] ++ [D] ++ [A] ++ [B]))[L.length+2]?=some D:=by
  rw [List.getElem?_cons_succ,List.getElem?_append_left (by simp),List.getElem?_append_left (by simp),List.getElem?_append_right (by simp)];simp
 have e3:(R :: (L ++ [C] ++ [D] ++ [A] ++ [B]))[L.length+3]?=some A:=by
  rw [List.getElem?_cons_succ,List.getElem?_append_left (by simp),List.getElem?_append_right (by simp)];simp
 have e4:(R :: (L ++ [C] ++ [D] ++ [A] ++ [B]))[L.length+4]?=some B:=by
  rw [List.getElem?_cons_succ,List.getElem?_append_right (by simp)];simp
 refine h.selC (fun k=>if k<2 then L.length+3+k else if k<4 then L.length+k - 1 else if k=4 then 0 else k - 4) (fun k Z hk=>?_) (fun j k hj hk hne=>?_)
 ·match k with
  | 0=>exact e3.trans hk
  | 1=>exact e4.trans hk
  | 2=>exact e.trans hk
  | 3=>exact e2.trans hk
  | 4=>exact hk
  | k+5=>
   have y:L[k]?=some Z:=hk;have hl:=(List.getElem?_eq_some_iff.1 y).1;simp only [show ¬ (k+5<2) by omega,show ¬ (k+5<4) by omega,show ¬ (k+5=4) by omega,if_false];rw [show k+5 - 4=k+1 by omega,d k hl];exact y
 have z:([A,B,C,D,R] ++ L).length=5+L.length:=by rw [List.length_append];rfl
 rw [z] at hj hk;split<;>split<;>(try split)<;>(try split)<;>(try split)<;>(try split)<;>omega
theorem Fam.aBq {L:List Asn} (h:Fam w0 w L) (T:Nat) (cs:List Value):Fam w0 (w.alloc (.cells cs.toArray T)) (eG w.heap.size T cs :: L):=by
 have z:=h.addRow T cs;refine z.selC (fun k=>if k=0 then L.length else k - 1) (fun k Z hk=>?_) (fun j k hj hk hne=>?_)
 ·match k with
  | 0=>
   show (L ++ [_])[L.length]?=some Z;rw [jA];exact hk
  | k+1=>
   have y:L[k]?=some Z:=hk;simp only [show ¬ (k+1=0) by omega,if_false,Nat.add_sub_cancel];exact rF y
 rw [List.length_cons] at hj hk;split<;>split<;>omega
theorem Fam.aQI {L:List Asn} (h:Fam w0 w L):Fam w0 w (L ++ [NoA]):=h.add ⟨Only.refl _ _,fun _=>False,fun _ hk=>hk,fun _ hk=>hk.elim⟩
theorem G5.rl1 {A:Asn} {L:List Asn} (y:x.on=true):RL (A :: (G5 b c x ++ l ++ L)) 1 2 x.q x.r c.m=A :: (G5 b c x ++ l ++ L):=by
 obtain ⟨q,r,e,sv,d,z⟩:=x
 cases y
 rfl
theorem aKA (w:World) (hf:Fam w0 w (G5 b c x ++ l)) (hx:x.ok c) (h:c.Okc) (h7:x.on=true):Calls Tryz.prog 40 #[.pointer (some ⟨b,0,none⟩)] w (fun e w'=>∃ b2,e=.returned (.pointer (some ⟨b2,0,none⟩))/\∃ x2:GX5,x2.ok c/\Fam w0 w' (G5 b2 c x2 ++ (G5 b c x ++ l))):=by
 refine aF fun R hR=>?_;obtain ⟨x0,x1,x2,x3,x4,x5,x6,x7,x8,_⟩:=bF.cells hf;rw [h7] at x2;replace x2:w.cell? ⟨b,2,none⟩=some (.pointer (some ⟨x.r,0,none⟩)):=x2;have hs:=G5.sw hf;obtain ⟨sa,sc,hv⟩:=hs.len;have y5:=h.vK;obtain ⟨n,hn⟩:∃ n,n=c.sw.length:=⟨_,rfl⟩;rw [<-hn] at hv y5;rw [hv] at x8;have HB:=aA h.tg.b;have HX:=aA hx;have HV:=aA hv;have HN:=aA hn;have h4:=aA h7;have y4:Hid (x.on=true->c.m.Ok):=fun e=>h.mo (bQ.1 (hx.on.symm.trans e));have F1:Hid (Fam w0 (w.alloc (.cells #[.pointer (some ⟨x.q,0,none⟩),.pointer (some ⟨x.ub,0,none⟩),.pointer (some ⟨x.r,0,none⟩),.int .i64 (c.ph:Int),.int .i64 c.cr,.int .i64 c.rate,.int .i64 (c.pages:Int),.int .i64 (x.mv:Int),.slice sa n sc] 99)) (eG w.heap.size 99 [.pointer (some ⟨x.q,0,none⟩),.pointer (some ⟨x.ub,0,none⟩),.pointer (some ⟨x.r,0,none⟩),.int .i64 (c.ph:Int),.int .i64 c.cr,.int .i64 c.rate,.int .i64 (c.pages:Int),.int .i64 (x.mv:Int),.slice sa n sc] :: (G5 b c x ++ l))):=hf.aBq 99 [.pointer (some ⟨x.q,0,none⟩),.pointer (some ⟨x.ub,0,none⟩),.pointer (some ⟨x.r,0,none⟩),.int .i64 (c.ph:Int),.int .i64 c.cr,.int .i64 c.rate,.int .i64 (c.pages:Int),.int .i64 (x.mv:Int),.slice sa n sc];clear hf hx h hv hn hs h7;go_in;go_upto_region 4 with fail;obtain ⟨y,hy⟩:∃ y,y=w.heap.size:=⟨_,rfl⟩;rw [<-hy] at F1 ⊢;generalize w.alloc (.cells #[.pointer (some ⟨x.q,0,none⟩),.pointer (some ⟨x.ub,0,none⟩),.pointer (some ⟨x.r,0,none⟩),.int .i64 (c.ph:Int),.int .i64 c.cr,.int .i64 c.rate,.int .i64 (c.pages:Int),.int .i64 (x.mv:Int),.slice sa n sc] 99)=w1 at*;clear x0 x1 x2 x3 x4 x5 x6 x7 x8 hy;obtain ⟨S,⟨ev,qv,wv,nx,wl,ht,_⟩,_⟩:=F1.out.get 3 rfl;have ct:=aAy w1 ht HB.out.le (by have:=HB.out.q20;omega);have z1:=(F1.out.row 5 rfl).cell 1 rfl;clear ht;go_wp2_with fail;refine ct.mono ?_;rintro e w2 ⟨z,rfl,hB⟩;have F2:Hid (Fam w0 w2 (eG y 99 [.pointer (some ⟨x.q,0,none⟩),.pointer (some ⟨x.ub,0,none⟩),.pointer (some ⟨x.r,0,none⟩),.int .i64 (c.ph:Int),.int .i64 c.cr,.int .i64 c.rate,.int .i64 (c.pages:Int),.int .i64 (x.mv:Int),.slice sa n sc] :: (G5 b c x ++ l ++ [TrA z c.t]))):=F1.out.add hB;have r2:=F2.out.row 0 rfl;have y6:=r2.cell 1 rfl;have y7:=r2.free 1;have F3:Hid (Fam w0 (w2.setCell ⟨y,1,none⟩ (.pointer (some ⟨z,0,none⟩))) (eG y 99 [.pointer (some ⟨x.q,0,none⟩),.pointer (some ⟨z,0,none⟩),.pointer (some ⟨x.r,0,none⟩),.int .i64 (c.ph:Int),.int .i64 c.cr,.int .i64 c.rate,.int .i64 (c.pages:Int),.int .i64 (x.mv:Int),.slice sa n sc] :: (G5 b c x ++ l ++ [TrA z c.t]))):=F2.out.bV 0 rfl 1 _;clear ct hB r2 z1 F1;go_upto_region 5 with fail;generalize w2.setCell ⟨y,1,none⟩ (.pointer (some ⟨z,0,none⟩))=w3 at*;clear y6 y7 F2;have z8:=(F3.out.row 5 rfl).cell 8 rfl;replace z8:w3.cell? ⟨b,8,none⟩=some (.slice sa n sc):=by rw [<-HV.out];exact z8
 have h5:=F3.out.ints 4 rfl;rw [HV.out] at h5;have x9:=aA h5;have y1:sa=none->n=0/\sc=0:=fun e=>by
  rcases h5.form with ⟨h1,h2⟩|⟨g,cap,h1,_⟩
  ·cases h1;exact ⟨rfl,rfl⟩
  rw [e] at h1;cases h1
 clear h5;go_upto_region 5 with fail;go_wp2_with (at_builtin;refine nX rfl _ _ rfl w3.heap.size _ [] rfl (aK.nil _ _) sa n sc c.sw rfl ?c0 ?c1 ?c2 ?c3 ?c4 ?c5)
 case c0=>exact y1
 case c1=>exact HN.out.symm
 case c2=>
  intro ad e j u hu;have hj:j<c.sw.length:=(List.getElem?_eq_some_iff.1 hu).1;obtain ⟨vb,vo,e2,h3⟩:=x9.out.read.at hj;rw [e] at e2
  cases e2
  rw [show (⟨vb,vo,none⟩:Addr).add j=⟨vb,vo+j,none⟩ by unfold Addr.add;split<;>simp_all]
  rw [h3,gI,hu];rfl
 case c3=>simp;omega
 case c4=>simp
 case c5=>
  intro v' w4 h0 h6 _;replace h6:Only [] w3 w4:=h6;replace h0:aK w4 w3.heap.size v' c.sw:=h0;obtain ⟨d,vc,y2⟩:=h0.len;rw [<-HN.out] at y2;subst y2;have F4:Hid (Fam w0 w4 (eG y 99 [.pointer (some ⟨x.q,0,none⟩),.pointer (some ⟨z,0,none⟩),.pointer (some ⟨x.r,0,none⟩),.int .i64 (c.ph:Int),.int .i64 c.cr,.int .i64 c.rate,.int .i64 (c.pages:Int),.int .i64 (x.mv:Int),.slice sa n sc] :: (G5 b c x ++ l ++ [TrA z c.t] ++ [dG (.slice d n vc) c.sw]))):=F3.out.iK h6 h0;have r4:=F4.out.row 0 rfl;have y9:=r4.cell 8 rfl;have z0:=r4.free 8;have F5:Hid (Fam w0 (w4.setCell ⟨y,8,none⟩ (.slice d n vc)) (eG y 99 [.pointer (some ⟨x.q,0,none⟩),.pointer (some ⟨z,0,none⟩),.pointer (some ⟨x.r,0,none⟩),.int .i64 (c.ph:Int),.int .i64 c.cr,.int .i64 c.rate,.int .i64 (c.pages:Int),.int .i64 (x.mv:Int),.slice d n vc] :: (G5 b c x ++ l ++ [TrA z c.t] ++ [dG (.slice d n vc) c.sw]))):=F4.out.bV 0 rfl 8 _;clear h0 h6 r4 z8 F3 x9 y1;go_upto_region 6 with fail;generalize w4.setCell ⟨y,8,none⟩ (.slice d n vc)=w5 at*;clear y9 z0 F4;have z2:=(F5.out.row 5 rfl).cell 2 rfl;replace z2:w5.cell? ⟨b,2,none⟩=some (.pointer (some ⟨x.r,0,none⟩)):=by rw [h4.out] at z2;exact z2
  have h8:=G5.rl1 (b:=b) (c:=c) (l:=l) (A:=eG y 99 [.pointer (some ⟨x.q,0,none⟩),.pointer (some ⟨z,0,none⟩),.pointer (some ⟨x.r,0,none⟩),.int .i64 (c.ph:Int),.int .i64 c.cr,.int .i64 c.rate,.int .i64 (c.pages:Int),.int .i64 (x.mv:Int),.slice d n vc]) (L:=[TrA z c.t] ++ [dG (.slice d n vc) c.sw]) h4.out;have h9:Fam w0 w5 (RL (eG y 99 [.pointer (some ⟨x.q,0,none⟩),.pointer (some ⟨z,0,none⟩),.pointer (some ⟨x.r,0,none⟩),.int .i64 (c.ph:Int),.int .i64 c.cr,.int .i64 c.rate,.int .i64 (c.pages:Int),.int .i64 (x.mv:Int),.slice d n vc] :: (G5 b c x ++ l ++ ([TrA z c.t] ++ [dG (.slice d n vc) c.sw]))) 1 2 x.q x.r c.m):=by rw [h8,<-List.append_assoc];exact F5.out
  have cm:=aHF w5 ⟨by simp [G5],by simp [G5],by decide⟩ h9 (y4.out h4.out);rw [h8,<-List.append_assoc] at cm;clear h8 h9;go_wp2_with fail;refine cm.mono ?_;rintro e w6 ⟨q2,r2,rfl,y0⟩;have F6:Hid (Fam w0 w6 (eG y 99 [.pointer (some ⟨x.q,0,none⟩),.pointer (some ⟨z,0,none⟩),.pointer (some ⟨x.r,0,none⟩),.int .i64 (c.ph:Int),.int .i64 c.cr,.int .i64 c.rate,.int .i64 (c.pages:Int),.int .i64 (x.mv:Int),.slice d n vc] :: (G5 b c x ++ l ++ [TrA z c.t] ++ [dG (.slice d n vc) c.sw] ++ [GH q2 c.m.M] ++ [GkA r2 q2 c.m.col c.m.list]))):=y0;have r6:=F6.out.row 0 rfl;have y3:=r6.cell 2 rfl;have y8:=r6.free 2;have F7:Hid (Fam w0 (w6.setCell ⟨y,2,none⟩ (.pointer (some ⟨r2,0,none⟩))) (eG y 99 [.pointer (some ⟨x.q,0,none⟩),.pointer (some ⟨z,0,none⟩),.pointer (some ⟨r2,0,none⟩),.int .i64 (c.ph:Int),.int .i64 c.cr,.int .i64 c.rate,.int .i64 (c.pages:Int),.int .i64 (x.mv:Int),.slice d n vc] :: (G5 b c x ++ l ++ [TrA z c.t] ++ [dG (.slice d n vc) c.sw] ++ [GH q2 c.m.M] ++ [GkA r2 q2 c.m.col c.m.list]))):=F6.out.bV 0 rfl 2 _;clear cm y0 r6 z2 F5;go_upto_region 7 with fail;generalize w6.setCell ⟨y,2,none⟩ (.pointer (some ⟨r2,0,none⟩))=w7 at*;clear y3 y8 F6;have r7:=F7.out.row 0 rfl;have y3:=r7.cell 2 rfl;have z4:=r7.cell 0 rfl;have z5:=r7.free 0;have z3:w7.cell? ⟨r2,0,none⟩=some (.pointer (some ⟨q2,0,none⟩)):=by
   obtain ⟨S,⟨tg,tc,v,T1,h1,_⟩,_⟩:=F7.out.get ((G5 b c x ++ l ++ [TrA z c.t] ++ [dG (.slice d n vc) c.sw] ++ [GH q2 c.m.M]).length+1) (A:=GkA r2 q2 c.m.col c.m.list) (by rw [List.getElem?_cons_succ,jA]);obtain ⟨T,h2⟩:=h1.row;exact h2.cell 0 rfl
  have F8:Hid (Fam w0 (w7.setCell ⟨y,0,none⟩ (.pointer (some ⟨q2,0,none⟩))) (G5 y c ⟨q2,r2,z,.slice d n vc,true,x.mv⟩ ++ (G5 b c x ++ l))):=by
   have f8:Fam w0 (w7.setCell ⟨y,0,none⟩ (.pointer (some ⟨q2,0,none⟩))) (eG y 99 [.pointer (some ⟨q2,0,none⟩),.pointer (some ⟨z,0,none⟩),.pointer (some ⟨r2,0,none⟩),.int .i64 (c.ph:Int),.int .i64 c.cr,.int .i64 c.rate,.int .i64 (c.pages:Int),.int .i64 (x.mv:Int),.slice d n vc] :: (G5 b c x ++ l ++ [TrA z c.t] ++ [dG (.slice d n vc) c.sw] ++ [GH q2 c.m.M] ++ [GkA r2 q2 c.m.col c.m.list])):=F7.out.bV 0 rfl 0 _;exact f8.aNC
  clear r7 F7;go_wp2;exact hR.out _ _ ⟨y,rfl,⟨q2,r2,z,.slice d n vc,true,x.mv⟩,⟨h4.out.symm.trans HX.out.on,HX.out.mv,HX.out.m0,HX.out.mv2⟩,F8.out⟩
theorem aHK (w:World) (hf:Fam w0 w (G5 b c x ++ l)) (hx:x.ok c) (h:c.Okc) (h6:x.on=false):Calls Tryz.prog 40 #[.pointer (some ⟨b,0,none⟩)] w (fun e w'=>∃ b2,e=.returned (.pointer (some ⟨b2,0,none⟩))/\∃ x2:GX5,x2.ok c/\Fam w0 w' (G5 b2 c x2 ++ (G5 b c x ++ l))):=by
 refine aF fun R hR=>?_;obtain ⟨x0,x1,x2,x3,x4,x5,x6,x7,x8,_⟩:=bF.cells hf;rw [h6] at x2;replace x2:w.cell? ⟨b,2,none⟩=some (.pointer none):=x2;have hs:=G5.sw hf;obtain ⟨sa,sc,hv⟩:=hs.len;have y5:=h.vK;obtain ⟨n,hn⟩:∃ n,n=c.sw.length:=⟨_,rfl⟩;rw [<-hn] at hv y5;rw [hv] at x8;have HB:=aA h.tg.b;have HX:=aA hx;have HV:=aA hv;have HN:=aA hn;have h9:=aA h6;have z4:Hid (x.on=true->c.m.Ok):=fun e=>h.mo (bQ.1 (hx.on.symm.trans e));have F1:Hid (Fam w0 (w.alloc (.cells #[.pointer (some ⟨x.q,0,none⟩),.pointer (some ⟨x.ub,0,none⟩),.pointer none,.int .i64 (c.ph:Int),.int .i64 c.cr,.int .i64 c.rate,.int .i64 (c.pages:Int),.int .i64 (x.mv:Int),.slice sa n sc] 99)) (eG w.heap.size 99 [.pointer (some ⟨x.q,0,none⟩),.pointer (some ⟨x.ub,0,none⟩),.pointer none,.int .i64 (c.ph:Int),.int .i64 c.cr,.int .i64 c.rate,.int .i64 (c.pages:Int),.int .i64 (x.mv:Int),.slice sa n sc] :: (G5 b c x ++ l))):=hf.aBq 99 [.pointer (some ⟨x.q,0,none⟩),.pointer (some ⟨x.ub,0,none⟩),.pointer none,.int .i64 (c.ph:Int),.int .i64 c.cr,.int .i64 c.rate,.int .i64 (c.pages:Int),.int .i64 (x.mv:Int),.slice sa n sc];clear hf hx h hv hn hs h6;go_in;go_upto_region 4 with fail;obtain ⟨y,hy⟩:∃ y,y=w.heap.size:=⟨_,rfl⟩;rw [<-hy] at F1 ⊢;generalize w.alloc (.cells #[.pointer (some ⟨x.q,0,none⟩),.pointer (some ⟨x.ub,0,none⟩),.pointer none,.int .i64 (c.ph:Int),.int .i64 c.cr,.int .i64 c.rate,.int .i64 (c.pages:Int),.int .i64 (x.mv:Int),.slice sa n sc] 99)=w1 at*;clear x0 x1 x2 x3 x4 x5 x6 x7 x8 hy;obtain ⟨S,⟨ev,qv,wv,nx,wl,ht,_⟩,_⟩:=F1.out.get 3 rfl;have ct:=aAy w1 ht HB.out.le (by have:=HB.out.q20;omega);have z1:=(F1.out.row 5 rfl).cell 1 rfl;clear ht;go_wp2_with fail;refine ct.mono ?_;rintro e w2 ⟨z,rfl,hB⟩;have F2:Hid (Fam w0 w2 (eG y 99 [.pointer (some ⟨x.q,0,none⟩),.pointer (some ⟨x.ub,0,none⟩),.pointer none,.int .i64 (c.ph:Int),.int .i64 c.cr,.int .i64 c.rate,.int .i64 (c.pages:Int),.int .i64 (x.mv:Int),.slice sa n sc] :: (G5 b c x ++ l ++ [TrA z c.t]))):=F1.out.add hB;have r2:=F2.out.row 0 rfl;have y6:=r2.cell 1 rfl;have y7:=r2.free 1;have F3:Hid (Fam w0 (w2.setCell ⟨y,1,none⟩ (.pointer (some ⟨z,0,none⟩))) (eG y 99 [.pointer (some ⟨x.q,0,none⟩),.pointer (some ⟨z,0,none⟩),.pointer none,.int .i64 (c.ph:Int),.int .i64 c.cr,.int .i64 c.rate,.int .i64 (c.pages:Int),.int .i64 (x.mv:Int),.slice sa n sc] :: (G5 b c x ++ l ++ [TrA z c.t]))):=F2.out.bV 0 rfl 1 _;clear ct hB r2 z1 F1;go_upto_region 5 with fail;generalize w2.setCell ⟨y,1,none⟩ (.pointer (some ⟨z,0,none⟩))=w3 at*;clear y6 y7 F2;have z8:=(F3.out.row 5 rfl).cell 8 rfl;replace z8:w3.cell? ⟨b,8,none⟩=some (.slice sa n sc):=by rw [<-HV.out];exact z8
 have h4:=F3.out.ints 4 rfl;rw [HV.out] at h4;have h8:=aA h4;have y3:sa=none->n=0/\sc=0:=fun e=>by
  rcases h4.form with ⟨h1,h2⟩|⟨g,cap,h1,_⟩
  ·cases h1;exact ⟨rfl,rfl⟩
  rw [e] at h1;cases h1
 clear h4;go_upto_region 5 with fail;go_wp2_with (at_builtin;refine nX rfl _ _ rfl w3.heap.size _ [] rfl (aK.nil _ _) sa n sc c.sw rfl ?c0 ?c1 ?c2 ?c3 ?c4 ?c5)
 case c0=>exact y3
 case c1=>exact HN.out.symm
 case c2=>
  intro ad e j u hu;have hj:j<c.sw.length:=(List.getElem?_eq_some_iff.1 hu).1;obtain ⟨vb,vo,e2,h3⟩:=h8.out.read.at hj;rw [e] at e2
  cases e2
  rw [show (⟨vb,vo,none⟩:Addr).add j=⟨vb,vo+j,none⟩ by unfold Addr.add;split<;>simp_all]
  rw [h3,gI,hu];rfl
 case c3=>simp;omega
 case c4=>simp
 case c5=>
  intro v' w4 h0 h5 _;replace h5:Only [] w3 w4:=h5;replace h0:aK w4 w3.heap.size v' c.sw:=h0;obtain ⟨d,vc,y4⟩:=h0.len;rw [<-HN.out] at y4;subst y4;have F4:Hid (Fam w0 w4 (eG y 99 [.pointer (some ⟨x.q,0,none⟩),.pointer (some ⟨z,0,none⟩),.pointer none,.int .i64 (c.ph:Int),.int .i64 c.cr,.int .i64 c.rate,.int .i64 (c.pages:Int),.int .i64 (x.mv:Int),.slice sa n sc] :: (G5 b c x ++ l ++ [TrA z c.t] ++ [dG (.slice d n vc) c.sw]))):=F3.out.iK h5 h0;have r4:=F4.out.row 0 rfl;have y9:=r4.cell 8 rfl;have z3:=r4.free 8;have F5:Hid (Fam w0 (w4.setCell ⟨y,8,none⟩ (.slice d n vc)) (eG y 99 [.pointer (some ⟨x.q,0,none⟩),.pointer (some ⟨z,0,none⟩),.pointer none,.int .i64 (c.ph:Int),.int .i64 c.cr,.int .i64 c.rate,.int .i64 (c.pages:Int),.int .i64 (x.mv:Int),.slice d n vc] :: (G5 b c x ++ l ++ [TrA z c.t] ++ [dG (.slice d n vc) c.sw]))):=F4.out.bV 0 rfl 8 _;clear h0 h5 r4 z8 F3 h8 y3;go_upto_region 6 with fail;generalize w4.setCell ⟨y,8,none⟩ (.slice d n vc)=w5 at*;clear y9 z3 F4;have z2:=(F5.out.row 5 rfl).cell 2 rfl;replace z2:w5.cell? ⟨b,2,none⟩=some (.pointer none):=by rw [h9.out] at z2;exact z2
  have z0:=(F5.out.row 5 rfl).cell 0 rfl;have r5:=F5.out.row 0 rfl;have h7:=r5.cell 2 rfl;have y8:=r5.free 2;have cm:=aHG w5;have F6:Hid (Fam w0 (w5.setCell ⟨y,2,none⟩ (.pointer none)) (eG y 99 [.pointer (some ⟨x.q,0,none⟩),.pointer (some ⟨z,0,none⟩),.pointer none,.int .i64 (c.ph:Int),.int .i64 c.cr,.int .i64 c.rate,.int .i64 (c.pages:Int),.int .i64 (x.mv:Int),.slice d n vc] :: (G5 b c x ++ l ++ [TrA z c.t] ++ [dG (.slice d n vc) c.sw]))):=F5.out.bV 0 rfl 2 _;clear r5;go_wp2_with fail;refine cm.mono ?_;rintro e _ ⟨rfl,rfl⟩;clear cm;go_upto_region 7 with fail;generalize w5.setCell ⟨y,2,none⟩ (.pointer none)=w6 at*;clear h7 y8 F5 z0 z2;have h7:=(F6.out.row 0 rfl).cell 2 rfl;have z0:=(F6.out.row 5 rfl).cell 0 rfl;obtain ⟨hk,L,X,y2⟩:=F6.out.gh 1 rfl;have HK:=aA hk;have ch:=aDz w6 y2 hk;clear hk y2;go_wp2_with fail;refine ch.mono ?_;rintro e w7 ⟨q2,L2,X2,rfl,y1,x9,y0⟩;have F7:Hid (Fam w0 w7 (eG y 99 [.pointer (some ⟨x.q,0,none⟩),.pointer (some ⟨z,0,none⟩),.pointer none,.int .i64 (c.ph:Int),.int .i64 c.cr,.int .i64 c.rate,.int .i64 (c.pages:Int),.int .i64 (x.mv:Int),.slice d n vc] :: (G5 b c x ++ l ++ [TrA z c.t] ++ [dG (.slice d n vc) c.sw] ++ [GH q2 c.m.M]))):=F6.out.add (aOW y1 HK.out x9 y0);have r7:=F7.out.row 0 rfl;have z5:=r7.cell 0 rfl;have z6:=r7.free 0;have F8:Hid (Fam w0 (w7.setCell ⟨y,0,none⟩ (.pointer (some ⟨q2,0,none⟩))) (G5 y c ⟨q2,x.r,z,.slice d n vc,false,x.mv⟩ ++ (G5 b c x ++ l))):=by
   have f8:Fam w0 (w7.setCell ⟨y,0,none⟩ (.pointer (some ⟨q2,0,none⟩))) (eG y 99 [.pointer (some ⟨q2,0,none⟩),.pointer (some ⟨z,0,none⟩),.pointer none,.int .i64 (c.ph:Int),.int .i64 c.cr,.int .i64 c.rate,.int .i64 (c.pages:Int),.int .i64 (x.mv:Int),.slice d n vc] :: (G5 b c x ++ l ++ [TrA z c.t] ++ [dG (.slice d n vc) c.sw] ++ [GH q2 c.m.M])):=F7.out.bV 0 rfl 0 _;exact f8.aQI.aNC
  clear r7 F7 ch y1 x9 y0 F6 h7 z0;go_wp2;exact hR.out _ _ ⟨y,rfl,⟨q2,x.r,z,.slice d n vc,false,x.mv⟩,⟨h9.out.symm.trans HX.out.on,HX.out.mv,HX.out.m0,HX.out.mv2⟩,F8.out⟩
theorem aHL (w:World) (z:Fam w0 w (G5 b c x ++ l)) (hx:x.ok c) (h:c.Okc):Calls Tryz.prog 40 #[.pointer (some ⟨b,0,none⟩)] w (fun e w'=>∃ b2,e=.returned (.pointer (some ⟨b2,0,none⟩))/\∃ x2:GX5,x2.ok c/\Fam w0 w' (G5 b2 c x2 ++ (G5 b c x ++ l))):=by
 cases y:x.on with
 | true=>exact aKA w z hx h y
 | false=>exact aHK w z hx h y
theorem aKz (w:World) (hf:Fam w0 w (G5 b c x ++ l)) (hx:x.ok c) (h:c.Okc):Calls Tryz.prog 103 #[.pointer (some ⟨b,0,none⟩)] w (fun e w'=>e=.returned (.tuple #[.int .i64 c.step.1,.int .i64 c.step.2.1])/\Fam w0 w' (G5 b c x ++ l)):=by
 refine aF fun R hR=>?_;have cc:=aHL w hf hx h;have HH:=aA h;clear hf hx h;go_in;go_wp2_with fail;refine cc.mono ?_;rintro e w2 ⟨b2,rfl,x2,d,y⟩;have cs:=oQ w2 y d HH.out;clear cc d y;go_wp2_with fail;refine cs.mono ?_;rintro e w3 ⟨rfl,x3,_,z⟩;have F3:=aA (Fam.rest z);clear cs z;go_wp2;exact hR.out _ _ ⟨rfl,F3.out⟩
end
end Go.Proofs.YthflghdaejbdkaaGreat
