/- Lemmas of this claim. -/
import Derived.Test.YthflghdaejbdkaaGreatXcCyG
namespace Go.Proofs.YthflghdaejbdkaaGreat
open _root_.Go.Proofs.Tryz (prog)
open Go.RowKit Go.Maps
set_option maxHeartbeats 6400000
set_option maxRecDepth 100000
set_option linter.unusedVariables false
section
variable {w0 w w':World} {l:List Asn} {b:Nat} {c:Co} {x:GX5} {i:Nat} {m:Mk} {t:Tb}
theorem Fam.hole (h:Fam w0 w l) (i:Nat):Fam w0 w (l.set i NoA):=by
 obtain ⟨h0,S,h1,h2,h3⟩:=h;refine ⟨h0,fun j=>if j=i then (fun _=>False) else S j,fun j A hj=>?_,fun a b ha hb hab k=>?_,fun j hj k hk=>?_⟩
 ·by_cases e:j=i
  ·simp only [e,if_true];rw [e,List.getElem?_set] at hj;split at hj
   ·split at hj
    ·cases hj;exact fun _ h=>h
    cases hj
   rename_i y;exact absurd rfl y
  simp only [e,if_false];rw [List.getElem?_set_ne (fun x=>e x.symm)] at hj;exact h1 j A hj
 ·rw [List.length_set] at ha hb
  by_cases z:a=i
  ·simp only [z,if_true];exact fun h=>h.elim
  simp only [z,if_false]
  by_cases d:b=i
  ·simp only [d,if_true];exact fun _ h=>h
  simp only [d,if_false];exact h2 a b ha hb hab k
 rw [List.length_set] at hj
 by_cases e:j=i
 ·simp only [e,if_true] at hk
 simp only [e,if_false] at hk;exact h3 j hj k hk
theorem G5.drop (z:Fam w0 w (G5 b c x ++ l)):Fam w0 (w.setCell ⟨b,2,none⟩ (.pointer none)) (G5 b c { x with on:=false } ++ l):=by
 have y:Fam w0 (w.setCell ⟨b,2,none⟩ (.pointer none)) _:=z.bV 4 rfl 2 (.pointer none);exact y.hole 1
theorem uN (w:World) (z:Fam w0 w (G5 b c x ++ l)) (y:x.on=true) (h:c.Okc) (d:c.ph=2):Calls prog 69 #[.pointer (some ⟨x.ub,0,none⟩),.pointer (some ⟨x.r,0,none⟩)] w (fun e w'=>e=.returned (.tuple #[.int .i64 (c.t.step c.m).1,.int .i64 (c.t.step c.m).2.1,.int .i64 (c.t.step c.m).2.2.1])/\Fam w0 w' (G5 b c.stepT x ++ l)):=by
 have:=aGC w (G5.t3 (b:=b) (c:=c) (x:=x) (l:=l)) (G5.toQ y z) h.tg (h.mo (.inr d));rw [G5.ql y] at this;exact this
theorem G5.p12 (z:x.on=true) (y:Fam w0 w (G5 b c x ++ l)):w.cell? ⟨b,1,none⟩=some (.pointer (some ⟨x.ub,0,none⟩))/\w.cell? ⟨b,2,none⟩=some (.pointer (some ⟨x.r,0,none⟩)):=⟨(bF.cells y).2.1,G5.m2 z y⟩
theorem aKX (y:c.ph=2):c.bar=true:=bQ.2 (.inr y)
theorem aMH (w:World) (hf:Fam w0 w (G5 b c x ++ l)) (hx:x.ok c) (h:c.Okc) (hp:c.ph=2) (y:(c.t.step c.m).2.2.1=0):Calls prog 178 #[.pointer (some ⟨b,0,none⟩)] w (pG w0 l b c.refs):=by
 refine aF fun R hR=>?_;have h0:x.on=true:=hx.on.trans (aKX hp);have F0:=aA hf;have z:=aA h0;have HC:Hid (∀ wx,Fam w0 wx (G5 b c x ++ l)->Calls prog 69 #[.pointer (some ⟨x.ub,0,none⟩),.pointer (some ⟨x.r,0,none⟩)] wx (fun e w'=>e=.returned (.tuple #[.int .i64 (c.t.step c.m).1,.int .i64 (c.t.step c.m).2.1,.int .i64 0])/\Fam w0 w' (G5 b c.stepT x ++ l))):=fun wx hx=>by
  have:=uN wx hx h0 h hp;rw [y] at this;exact this
 have h5:=fF (h.stepT hp).1.hf.ok (c.t.step c.m).2.1;have HM:Hid (c.stepT.m.M=c.m.M):=(h.tg.step (h.mo (.inr hp))).2.2.1;have HR:Hid (∀ v w',v=(if (c.t.step c.m).1=3 then 1+c.stepT.m.M.len (c.t.step c.m).2.1 else 1)->Fam w0 w' (G5 b c.stepT x ++ l)->R (.returned (.int .i64 v)) w'):=fun v w' h1 h2=>hR.out _ _ ⟨by rw [h1,HM.out,Co.eY,if_pos y],x,⟨by rw [Co.eY,if_pos y];exact hx.on,by rw [Co.eY,if_pos y];exact hx.mv,by rw [Co.eY,if_pos y];exact hx.m0,hx.mv2⟩,by rw [Co.eY,if_pos y];exact h2⟩;clear hf hx h hp hR h0 y;go_in;go_upto_region 1 with fail;generalize (c.t.step c.m).1=a1 at*;generalize (c.t.step c.m).2.1=a2 at*;go_region_held3 (fun w'=>w'.cell? ⟨b,1,none⟩=some (.pointer (some ⟨x.ub,0,none⟩))/\w'.cell? ⟨b,2,none⟩=some (.pointer (some ⟨x.r,0,none⟩)))
  (first|(exact G5.p12 z.out F0.out.drew)|(exact G5.p12 z.out F0.out)|(exact G5.p12 z.out f3))
  (first|(go_at_call 69;refine (HC.out _ F0.out.drew).mono ?_;rintro e w3 ⟨rfl,f3⟩))
 have F3:=aA f3;clear f3 HC F0;have cl:=aBI w3 F3.out a2
 by_cases h3:a1=3
 ·have d:Hid (∀ w',Fam w0 w' (G5 b c.stepT x ++ l)->R (.returned (.int .i64 (1+c.stepT.m.M.len a2))) w'):=fun w' hf=>HR.out _ w' (by rw [if_pos h3]) hf;subst h3;clear HR HM;generalize c.stepT.m.M.len a2=n at*;go_wp2_with fail;refine cl.mono ?_;rintro e w4 ⟨rfl,ho⟩;have F4:=aA (F3.out.aN ho);clear cl ho F3;go_wp2_with fail;exact d.out _ F4.out
 have d:Hid (∀ w',Fam w0 w' (G5 b c.stepT x ++ l)->R (.returned (.int .i64 1)) w'):=fun w' hf=>HR.out _ w' (by rw [if_neg h3]) hf;have h4:(a1 == 3)=false:=by simpa using h3
 clear HR HM cl h3;go_wp2_with fail;exact d.out _ F3.out
theorem aHB (w:World) (hf:Fam w0 w (G5 b c x ++ l)) (hx:x.ok c) (h:c.Okc) (hp:c.ph=2) (he:(c.t.step c.m).2.2.1≠0) (hl:c.stepT.m.list≠[]):Calls prog 178 #[.pointer (some ⟨b,0,none⟩)] w (pG w0 l b c.refs):=by
 refine aF fun R hR=>?_;have h0:x.on=true:=hx.on.trans (aKX hp);have F0:=aA hf;have d:=aA h0;have HC:Hid (∀ y,Fam w0 y (G5 b c x ++ l)->Calls prog 69 #[.pointer (some ⟨x.ub,0,none⟩),.pointer (some ⟨x.r,0,none⟩)] y (fun e w'=>e=.returned (.tuple #[.int .i64 (c.t.step c.m).1,.int .i64 (c.t.step c.m).2.1,.int .i64 (c.t.step c.m).2.2.1])/\Fam w0 w' (G5 b c.stepT x ++ l))):=fun y hx=>uN y hx h0 h hp;have z:c.refs=c.stepT.mark:=by rw [Co.eY,if_neg he];unfold Co.tail;rw [if_neg hl]
 rw [z] at hR;have hk:=(h.stepT hp).1;have HM:Hid (∀ y,Fam w0 y (G5 b c.stepT x ++ l)->Calls prog 177 #[.pointer (some ⟨b,0,none⟩)] y (pG w0 l b c.stepT.mark)):=fun y hwx=>aDu y hwx ⟨hx.on,hx.mv,hx.m0,hx.mv2⟩ hk (.inr hp);have HD:Hid (∀ y,Fam w0 y (G5 b c.stepT x ++ l)->Calls prog 71 #[.pointer (some ⟨x.r,0,none⟩)] y (aO y (.bool false))):=fun y hwx=>by
  have:=jX y (G5.t2 (b:=b) (c:=c.stepT) (x:=x) (l:=l)) (G5.toR h0 hwx);rw [decide_eq_false hl] at this;exact this
 have h1:((c.t.step c.m).2.2.1 == 0)=false:=by simpa using he
 clear hf hx h hp h0 he hl z hk;go_in;go_upto_region 1 with fail;generalize (c.t.step c.m).1=a1 at*;generalize (c.t.step c.m).2.1=a2 at*;generalize (c.t.step c.m).2.2.1=a3 at*;go_region_held3 (fun w'=>w'.cell? ⟨b,1,none⟩=some (.pointer (some ⟨x.ub,0,none⟩))/\w'.cell? ⟨b,2,none⟩=some (.pointer (some ⟨x.r,0,none⟩)))
  (first|(exact G5.p12 d.out F0.out.drew)|(exact G5.p12 d.out F0.out)|(exact G5.p12 d.out f3))
  (first|(go_at_call 69;refine (HC.out _ F0.out.drew).mono ?_;rintro e w3 ⟨rfl,f3⟩))
 have cd:=HD.out w3 f3;have cm:=HM.out w3 f3;have z2:=G5.m2 d.out f3;clear f3 HC F0 HD HM;go_wp2_with fail;refine cd.mono ?_;rintro e _ ⟨rfl,rfl⟩;clear cd;go_wp2_with fail;refine cm.mono ?_;rintro e w4 ⟨rfl,hd⟩;have HE:=aA hd;clear cm hd z2;go_wp2;exact hR.out _ _ ⟨rfl,HE.out⟩
theorem aDw (w:World) (z:Fam w0 w (G5 b c x ++ l)) (h s v:Int):Calls prog 144 #[.pointer (some ⟨x.q,0,none⟩),.int .i64 h,.int .i64 s,.int .i64 v] w (fun e w'=>e=.returned (.int .i64 (c.m.M.set h s v).1)/\Fam w0 w' (G5 b (c.pI (c.m.put (c.m.M.set h s v).2)) x ++ l)):=
 z.aDn 0 rfl (M':=(c.m.M.set h s v).2) (fun y=>y.set h s v) (fun L X hr y=>aFT w hr y h s v)
theorem G5.s3 (hf:Fam w0 w (G5 b c x ++ l)) {va:Option Addr} {n vc k:Nat} (hv:x.sv=.slice va n vc) (hk:k<c.sw.length):∃ z d,va=some ⟨z,d,none⟩/\w.cell? ⟨b,0,none⟩=some (.pointer (some ⟨x.q,0,none⟩))/\w.cell? ⟨b,8,none⟩=some (.slice (some ⟨z,d,none⟩) n vc)/\w.cell? ⟨z,d+k,none⟩=some (.int .i64 (gI c.sw k)):=by
 have hs:=G5.sw hf;rw [hv] at hs;obtain ⟨z,d,e,hc⟩:=hs.read.at hk;have y:=bF.cells hf;rw [hv,e] at y;exact ⟨z,d,e,y.1,y.2.2.2.2.2.2.2.2.1,hc⟩
theorem G5.s3b (hf:Fam w0 w (G5 b c x ++ l)) {y z n d k:Nat} (hv:x.sv=.slice (some ⟨y,z,none⟩) n d) (hk:k<c.sw.length):w.cell? ⟨b,0,none⟩=some (.pointer (some ⟨x.q,0,none⟩))/\w.cell? ⟨b,8,none⟩=some (.slice (some ⟨y,z,none⟩) n d)/\w.cell? ⟨y,z+k,none⟩=some (.int .i64 (gI c.sw k)):=by
 obtain ⟨h0,h1,e,h⟩:=G5.s3 hf hv hk
 cases e
 exact h
def Co.swp (c:Co) (s:List Int) (k:Nat):Co:={ c with sw:=s,m:=c.m.put (c.m.M.cZ s k) }
def Co.aII (c:Co) (s:List Int) (k j:Nat):Co:={ c with sw:=s,m:=c.m.put ((c.m.M.cZ s k).bK (gI s k) j) }
theorem aEO (w:World) (hf:Fam w0 w (G5 b c x ++ l)) (hx:x.ok c) (h:c.Okc) (hp:c.ph=2) (he:(c.t.step c.m).2.2.1≠0) (hl:c.stepT.m.list=[]):Calls prog 178 #[.pointer (some ⟨b,0,none⟩)] w (pG w0 l b c.refs):=by
 refine aF fun R hR=>?_;have h3:x.on=true:=hx.on.trans (aKX hp);have F0:=aA hf;have h5:=aA h3;have HC:Hid (∀ z,Fam w0 z (G5 b c x ++ l)->Calls prog 69 #[.pointer (some ⟨x.ub,0,none⟩),.pointer (some ⟨x.r,0,none⟩)] z (fun e w'=>e=.returned (.tuple #[.int .i64 (c.t.step c.m).1,.int .i64 (c.t.step c.m).2.1,.int .i64 (c.t.step c.m).2.2.1])/\Fam w0 w' (G5 b c.stepT x ++ l))):=fun z hx=>uN z hx h3 h hp;obtain ⟨s,hs⟩:∃ s,s=c.stepT.m.white:=⟨_,rfl⟩;have y4:s.length<=192:=by rw [hs];exact wZ c.stepT.m
 have h4:c.refs=c.stepT.dV s:=by rw [Co.eY,if_neg he];unfold Co.tail;rw [if_pos hl,hs];rfl
 rw [h4] at hR;have x2:=(h.stepT hp).1;have HK:Hid (∀ k,(c.stepT.m.M.cZ s k).Ok):=fun k=>(vJ x2.hf s k).1.ok;have HD:Hid (∀ z,Fam w0 z (G5 b c.stepT x ++ l)->Calls prog 71 #[.pointer (some ⟨x.r,0,none⟩)] z (aO z (.bool true))):=fun z hwx=>by
  have:=jX z (G5.t2 (b:=b) (c:=c.stepT) (x:=x) (l:=l)) (G5.toR h3 hwx);rw [decide_eq_true hl] at this;exact this
 have HW:Hid (∀ z,Fam w0 z (G5 b c.stepT x ++ l)->Calls prog 223 #[.pointer (some ⟨x.r,0,none⟩)] z (aNP z s)):=fun z hwx=>by
  have:=aHy z (G5.t2 (b:=b) (c:=c.stepT) (x:=x) (l:=l)) (G5.toR h3 hwx);rw [hs];exact this
 have x1:=hx.mv2;have x3:x.mv=0:=hx.m0 (by omega) (by omega);have HR:Hid (∀ w' v,Fam w0 w' (G5 b (c.stepT.dV s).2 { x with sv:=v,on:=false } ++ l)->R (.returned (.int .i64 1)) w'):=fun w' v h2=>hR.out _ _ ⟨rfl,{ x with sv:=v,on:=false },⟨by show false=decide _;simp [Co.dV],fun e=>by (cases e),fun _ _=>x3,x1⟩,h2⟩;have y6:((c.t.step c.m).2.2.1 == 0)=false:=by simpa using he
 clear hf hx h hp h3 he hl h4 hs x2 x1 x3 hR;go_in;go_upto_region 1 with fail;generalize (c.t.step c.m).1=a1 at*;generalize (c.t.step c.m).2.1=a2 at*;generalize (c.t.step c.m).2.2.1=a3 at*;go_region_held3 (fun w'=>w'.cell? ⟨b,1,none⟩=some (.pointer (some ⟨x.ub,0,none⟩))/\w'.cell? ⟨b,2,none⟩=some (.pointer (some ⟨x.r,0,none⟩)))
  (first|(exact G5.p12 h5.out F0.out.drew)|(exact G5.p12 h5.out F0.out)|(exact G5.p12 h5.out f3))
  (first|(go_at_call 69;refine (HC.out _ F0.out.drew).mono ?_;rintro e w3 ⟨rfl,f3⟩))
 have F3:=aA f3;have cd:=HD.out w3 f3;have cw:=HW.out w3 f3;have z2:=G5.m2 h5.out f3;clear f3 HC F0 HD HW;generalize c.stepT=d at*;go_wp2_with fail;refine cd.mono ?_;rintro e _ ⟨rfl,rfl⟩;clear cd;go_wp2_with fail;refine cw.mono ?_;rintro e w4 ⟨v,rfl,hi,ho⟩;have y5:=(bF.cells (F3.out.aN ho)).2.2.2.2.2.2.2.2.2 8;have y8:=(bF.cells (F3.out.aN ho)).2.2.2.2.2.2.2.2.1;have F4:Hid (Fam w0 (w4.setCell ⟨b,8,none⟩ v) (G5 b (d.swp s 0) { x with sv:=v } ++ l)):=G5.aGz F3.out ho hi;obtain ⟨va,vc,hv⟩:=hi.len;subst hv;clear hi ho cw z2 F3;obtain ⟨n,hn⟩:∃ n,n=s.length:=⟨_,rfl⟩;have HN:=aA hn;rw [<-hn] at F4 y4 ⊢;clear hn;go_upto_region 9 with fail;generalize w4.setCell ⟨b,8,none⟩ (.slice va n vc)=w5 at*;clear y5 y8;go_wp2;go_loopw [6] (fun iv wr=>∃ k:Nat,k<=n/\iv=.int .i64 k/\Fam w0 wr (G5 b (d.swp s k) { x with sv:=.slice va n vc } ++ l)) (fun iv _=>n - (intOf iv).toNat)
 case atStart=>exact ⟨0,by omega,rfl,F4.out⟩
 case round=>as_aux_lemma=>
  clear F4;obtain ⟨k,hk,rfl,hf⟩:=hrel
  by_cases y0:k<n
  ·have x4:(k:Int)<(n:Int):=by omega
   have y9:(0:Int)<=(k:Int):=by omega
   have h6:k<s.length:=by rw [<-HN.out];exact y0
   have x6:=aA h6;have F6:=aA hf;obtain ⟨vb,vo,rfl,x0,x8,xe⟩:=G5.s3 hf (x:={ x with sv:=.slice va n vc }) rfl h6;replace xe:wr.cell? ⟨vb,vo+k,none⟩=some (.int .i64 (gI s k)):=xe;have cl:=aBI wr hf (gI s k);replace cl:Calls prog 222 #[.pointer (some ⟨b,0,none⟩),.int .i64 (gI s k)] wr (fun e w'=>e=.returned (.int .i64 ((d.m.M.cZ s k).len (gI s k)))/\Only [] wr w'):=cl;have x9:=fF (HK.out k) (gI s k);obtain ⟨ln,h7⟩:∃ ln:Nat,(d.m.M.cZ s k).len (gI s k)=(ln:Int):=⟨((d.m.M.cZ s k).len (gI s k)).toNat,by omega⟩;have HB:Hid (d.aII s k ln=d.swp s (k+1)):=by
    show _=_;unfold Co.aII Co.swp;show _={ d with sw:=s,m:=d.m.put ((d.m.M.cZ s k).blank (gI s k)) };unfold Hp.blank;rw [h7];rfl
   rw [h7] at cl x9;clear h7 h6 hf;obtain ⟨y,hy⟩:∃ y,y=gI s k:=⟨_,rfl⟩;have HY:=aA hy;rw [<-hy] at cl xe;clear hy;go_wp2_with fail;refine cl.mono ?_;rintro e w6 ⟨rfl,ho⟩;have F7:Hid (Fam w0 w6 (G5 b (d.aII s k 0) { x with sv:=.slice (some ⟨vb,vo,none⟩) n vc } ++ l)):=F6.out.aN ho;clear cl ho x0 x8 xe F6;go_wp2;go_loopw [8] (fun iv wr=>∃ j:Nat,j<=ln/\iv=.int .i64 j/\Fam w0 wr (G5 b (d.aII s k j) { x with sv:=.slice (some ⟨vb,vo,none⟩) n vc } ++ l)) (fun iv _=>ln - (intOf iv).toNat)
   case atStart=>exact ⟨0,by omega,rfl,F7.out⟩
   case round=>as_aux_lemma=>
    clear F7;obtain ⟨j,hj,rfl,hf⟩:=hrel
    by_cases z0:j<ln
    ·have x7:(j:Int)<(ln:Int):=by omega
     have y7:(0:Int)<=(j:Int):=by omega
     have F8:=aA hf;obtain ⟨h8,L,X,h9⟩:=G5.gh hf;have HS:Hid (∀ z (m':Mk),Fam w0 z (G5 b { d with sw:=s,m:=m' } { x with sv:=.slice (some ⟨vb,vo,none⟩) n vc } ++ l)->z.cell? ⟨b,0,none⟩=some (.pointer (some ⟨x.q,0,none⟩))/\z.cell? ⟨b,8,none⟩=some (.slice (some ⟨vb,vo,none⟩) n vc)/\z.cell? ⟨vb,vo+k,none⟩=some (.int .i64 y)):=fun z m' hwx=>by
      have:=G5.s3b hwx (x:={ x with sv:=.slice (some ⟨vb,vo,none⟩) n vc }) rfl x6.out;rw [HY.out];exact this
     have C1:Hid (∀ z,Fam w0 z (G5 b (d.aII s k j) { x with sv:=.slice (some ⟨vb,vo,none⟩) n vc } ++ l)->Calls prog 176 #[.pointer (some ⟨x.q,0,none⟩),.int .i64 y,.int .i64 (j:Int)] z (aO z (.tuple #[.bool (((d.m.M.cZ s k).bK (gI s k) j).isRef y (j:Int)).1,.int .i64 (((d.m.M.cZ s k).bK (gI s k) j).isRef y (j:Int)).2]))):=fun z hwx=>by
      obtain ⟨h8,L,X,h9⟩:=G5.gh hwx;exact uP z h9 h8 y (j:Int)
     have C2:Hid (∀ z,Fam w0 z (G5 b (d.aII s k j) { x with sv:=.slice (some ⟨vb,vo,none⟩) n vc } ++ l)->Calls prog 144 #[.pointer (some ⟨x.q,0,none⟩),.int .i64 y,.int .i64 (j:Int),.int .i64 0] z (fun e w'=>e=.returned (.int .i64 (((d.m.M.cZ s k).bK (gI s k) j).set y (j:Int) 0).1)/\Fam w0 w' (G5 b { d with sw:=s,m:=d.m.put (((d.m.M.cZ s k).bK (gI s k) j).set y (j:Int) 0).2 } { x with sv:=.slice (some ⟨vb,vo,none⟩) n vc } ++ l))):=fun z hwx=>aDw z hwx y (j:Int) 0;have h1:Hid ((d.m.M.cZ s k).bK (gI s k) (j+1)=if (((d.m.M.cZ s k).bK (gI s k) j).isRef (gI s k) (j:Int)).1=true then (((d.m.M.cZ s k).bK (gI s k) j).set (gI s k) (j:Int) 0).2 else (d.m.M.cZ s k).bK (gI s k) j):=rfl;rw [<-HY.out] at h1 C1 C2;clear hf h8 h9
     cases hr:(((d.m.M.cZ s k).bK y j).isRef y (j:Int)).1 with
     | true=>
      rw [hr] at C1;have h0:Hid (∀ z,Fam w0 z (G5 b { d with sw:=s,m:=d.m.put (((d.m.M.cZ s k).bK y j).set y (j:Int) 0).2 } { x with sv:=.slice (some ⟨vb,vo,none⟩) n vc } ++ l)->Fam w0 z (G5 b (d.aII s k (j+1)) { x with sv:=.slice (some ⟨vb,vo,none⟩) n vc } ++ l)):=fun z hwx=>by
       unfold Co.aII;rw [<-HY.out,h1.out,if_pos hr];exact hwx
      clear h1 hr;generalize (((d.m.M.cZ s k).bK y j).isRef y (j:Int)).2=y1 at*;generalize (((d.m.M.cZ s k).bK y j).set y (j:Int) 0).1=y2 at*;go_upto_region 16 with fail;go_region_held3 (fun w'=>w'.cell? ⟨b,0,none⟩=some (.pointer (some ⟨x.q,0,none⟩))/\w'.cell? ⟨b,8,none⟩=some (.slice (some ⟨vb,vo,none⟩) n vc)/\w'.cell? ⟨vb,vo+k,none⟩=some (.int .i64 y))
       (first|(exact HS.out _ _ F8.out)|(exact HS.out _ _ F8.out.drew))
       (first|(go_at_call 176;refine (C1.out _ F8.out.drew).mono ?_;rintro e _ ⟨rfl,rfl⟩))
      have F9:=aA F8.out.drew;generalize wr.drew=w8 at*;clear C1 F8;go_upto_region 18 with fail;go_region_held3 (fun w'=>w'.cell? ⟨b,0,none⟩=some (.pointer (some ⟨x.q,0,none⟩))/\w'.cell? ⟨b,8,none⟩=some (.slice (some ⟨vb,vo,none⟩) n vc)/\w'.cell? ⟨vb,vo+k,none⟩=some (.int .i64 y))
       (first|(exact HS.out _ _ F9.out)|(exact HS.out _ _ F9.out.drew)|(exact HS.out _ _ f9))
       (first|(go_at_call 144;refine (C2.out _ F9.out.drew).mono ?_;rintro e w9 ⟨rfl,f9⟩))
      have x5:=aA (h0.out _ f9);clear f9 C2 F9 h0 HS;go_wp2;exact ⟨⟨j+1,by omega,by go_num,x5.out⟩,by simp [intOf];omega⟩
     | false=>
      rw [hr] at C1;have h0:Hid (∀ z,Fam w0 z (G5 b (d.aII s k j) { x with sv:=.slice (some ⟨vb,vo,none⟩) n vc } ++ l)->Fam w0 z (G5 b (d.aII s k (j+1)) { x with sv:=.slice (some ⟨vb,vo,none⟩) n vc } ++ l)):=fun z hwx=>by
       unfold Co.aII at hwx ⊢;rw [<-HY.out] at hwx ⊢;rw [h1.out,if_neg (by rw [hr];decide)];exact hwx
      clear h1 hr C2;generalize (((d.m.M.cZ s k).bK y j).isRef y (j:Int)).2=y1 at*;go_upto_region 16 with fail;go_region_held3 (fun w'=>w'.cell? ⟨b,0,none⟩=some (.pointer (some ⟨x.q,0,none⟩))/\w'.cell? ⟨b,8,none⟩=some (.slice (some ⟨vb,vo,none⟩) n vc)/\w'.cell? ⟨vb,vo+k,none⟩=some (.int .i64 y))
       (first|(exact HS.out _ _ F8.out)|(exact HS.out _ _ F8.out.drew))
       (first|(go_at_call 176;refine (C1.out _ F8.out.drew).mono ?_;rintro e _ ⟨rfl,rfl⟩))
      have F9:=aA (h0.out _ F8.out.drew);generalize wr.drew=w8 at*;clear C1 F8 h0 HS;go_wp2;exact ⟨⟨j+1,by omega,by go_num,F9.out⟩,by simp [intOf];omega⟩
    obtain rfl:j=ln:=by omega
    have x7:¬ (j:Int)<(j:Int):=by omega
    rw [HB.out] at hf;have F8:=aA hf;clear hf HB;go_wp2;exact ⟨⟨k+1,by omega,by go_num,F8.out⟩,by simp [intOf];omega⟩
  obtain rfl:k=n:=by omega
  have x4:¬ (k:Int)<(k:Int):=by omega
  have F6:=aA hf;have y2:=(bF.cells hf).2.2.1;have y8:=(bF.cells hf).2.2.2.2.2.2.2.2.1;have z1:=(bF.cells hf).2.2.2.2.2.2.2.2.2 2;have F7:Hid (Fam w0 (wr.setCell ⟨b,2,none⟩ (.pointer none)) (G5 b (d.swp s k) { x with sv:=.slice va k vc,on:=false } ++ l)):=G5.drop hf;have z3:=(bF.cells F7.out).2.2.2.2.2.2.2.2.2 3;have y3:=(bF.cells F7.out).2.2.2.1;have F8:Hid (Fam w0 ((wr.setCell ⟨b,2,none⟩ (.pointer none)).setCell ⟨b,3,none⟩ (.int .i64 3)) (G5 b (d.dV s).2 { x with sv:=.slice va k vc,on:=false } ++ l)):=by
   have:=G5.sZ F7.out 3;rw [HN.out] at this ⊢;exact this
  clear hf F6;go_wp2_with fail;exact HR.out _ _ F8.out
theorem aKj (w:World) (z:Fam w0 w (G5 b c x ++ l)) (hx:x.ok c) (h:c.Okc) (d:c.ph=2):Calls prog 178 #[.pointer (some ⟨b,0,none⟩)] w (pG w0 l b c.refs):=by
 by_cases y:(c.t.step c.m).2.2.1=0
 ·exact aMH w z hx h d y
 by_cases e:c.stepT.m.list=[]
 ·exact aEO w z hx h d y e
 exact aHB w z hx h d y e
end
section
variable {w0 w w':World} {l:List Asn} {b:Nat} {c:Co} {x:GX5} {i:Nat} {m:Mk} {t:Tb}
theorem aAZ (y:c.ph≠1) (z:c.ph≠2):c.bar=false:=by unfold Co.bar;exact decide_eq_false (by omega)
theorem aKs (w:World) (hf:Fam w0 w (G5 b c x ++ l)) (hx:x.ok c) (h:c.Okc) (hp:c.ph=3) (hs:c.sw=[]):Calls prog 179 #[.pointer (some ⟨b,0,none⟩)] w (pG w0 l b c.free):=by
 refine aF fun R hR=>?_;have d:c.free=(1,{ c with ph:=4,mv:=0 }):=by unfold Co.free;rw [hs]
 rw [d] at hR;have y:=bF.cells hf;have x8:=y.2.2.2.2.2.2.2.2.1;have x3:=y.2.2.2.1;have h3:=y.2.2.2.2.2.2.2.2.2 3;obtain ⟨sa,sc,hv⟩:=(G5.sw hf).len;rw [hs] at hv;rw [hv] at x8;have h1:x.on=false:=hx.on.trans (aAZ (by omega) (by omega));have h0:x.mv=0:=hx.m0 (by omega) (by omega);have z:=hx.mv2;have F1:Hid (Fam w0 (w.setCell ⟨b,3,none⟩ (.int .i64 4)) (G5 b { c with ph:=4,mv:=0 } x ++ l)):=G5.sZ hf 4;have HR:Hid (∀ w',Fam w0 w' (G5 b { c with ph:=4,mv:=0 } x ++ l)->R (.returned (.int .i64 1)) w'):=fun w' h2=>hR.out _ _ ⟨rfl,x,⟨by rw [h1];symm;exact aAZ (c:={ c with ph:=4,mv:=0 }) (show (4:Nat)≠1 by decide) (show (4:Nat)≠2 by decide),fun _=>h0,fun _ e=>absurd e (by show ¬ (4:Nat)<=3;decide),z⟩,h2⟩;clear hf hx h hp hs d hR y hv h1 h0 z;replace x8:w.cell? ⟨b,8,none⟩=some (.slice sa 0 sc):=x8;generalize c.ph=ph at*;go_in;go_wp2_with fail;exact HR.out _ F1.out
theorem aKq (w:World) (z:Fam w0 w (G5 b c x ++ l)) (h:Int):Calls prog 224 #[.pointer (some ⟨x.q,0,none⟩),.int .i64 h] w (fun e w'=>e=.returned (.int .i64 (c.m.M.release h).1)/\Fam w0 w' (G5 b (c.pI (c.m.put (c.m.M.release h).2)) x ++ l)):=
 z.aDn 0 rfl (M':=(c.m.M.release h).2) (fun y=>y.release h) (fun L X hr y=>aDo w hr y h)
theorem aHJ (w:World) (hf:Fam w0 w (G5 b c x ++ l)) (hx:x.ok c) (h:c.Okc) (hp:c.ph=3) {y:Int} {r:List Int} (hs:c.sw=y :: r):Calls prog 179 #[.pointer (some ⟨b,0,none⟩)] w (pG w0 l b c.free):=by
 refine aF fun R hR=>?_;have x5:c.free=(1+((c.m.M.blocks y).1.length:Int),{ c with sw:=r,m:=c.m.put (c.m.M.release y).2 }):=by unfold Co.free;rw [hs]
 rw [x5] at hR;obtain ⟨sa,sc,hv⟩:=(G5.sw hf).len;obtain ⟨hk,L,X,x9⟩:=G5.gh hf;have cb:=aES w x9 hk y;have y6:=kS hk y;have h8:=h.vK;rw [hs] at hv h8;obtain ⟨n,hn⟩:∃ n,n=r.length:=⟨_,rfl⟩;have HN:=aA hn;replace hv:x.sv=.slice sa (n+1) sc:=by rw [hv,hn];rfl
 replace h8:n+1<=192:=by rw [hn];exact h8
 obtain ⟨vb,vo,y7,x0,x8,xe⟩:=G5.s3 hf hv (k:=0) (by rw [hs];simp);rw [hs] at xe;replace xe:w.cell? ⟨vb,vo,none⟩=some (.int .i64 y):=xe;subst y7;have y5:Hid (c.sw=y :: r):=hs;have x1:Hid (x.sv=.slice (some ⟨vb,vo,none⟩) (n+1) sc):=hv;have z2:n+1<=sc:=by
  have hi:=G5.sw hf;rw [hv] at hi;rcases hi.form with ⟨h1,h2⟩|⟨g,cap,h1,_,_,h4,_⟩
  ·cases h1
  simp only [Value.slice.injEq] at h1;omega
 have F0:=aA hf;have HX:=aA hx;have HR:Hid (∀ w' v,Fam w0 w' (G5 b { c with sw:=r,m:=c.m.put (c.m.M.release y).2 } { x with sv:=v } ++ l)->R (.returned (.int .i64 (1+((c.m.M.blocks y).1.length:Int)))) w'):=fun w' v h2=>hR.out _ _ ⟨rfl,{ x with sv:=v },⟨HX.out.on,HX.out.mv,HX.out.m0,HX.out.mv2⟩,h2⟩;clear hf hx h hp hs x5 hR hv hk x9 hn HX;generalize x3:(c.m.M.blocks y).1=bl at*;have y3:=aA x3;clear x3;obtain ⟨bn,h5⟩:∃ n,n=bl.length:=⟨_,rfl⟩;have y4:=aA h5;rw [<-h5] at HR y6;clear h5;go_in;go_wp2_with fail;refine cb.mono ?_;rintro e w1 ⟨v1,rfl,x6,x7⟩;have F1:=aA (F0.out.aN x7);obtain ⟨z3,z4,y1⟩:=x6.len;rw [y3.out,<-y4.out] at y1;subst y1;have y0:=(bF.cells F1.out).1;have cr:=aKq w1 F1.out y;clear cb x6 x7 x0 x8 xe F0;generalize (c.m.M.release y).1=re at*;go_wp2_with fail;refine cr.mono ?_;rintro e w2 ⟨rfl,x4⟩;have F2:Hid (Fam w0 w2 (G5 b { c with m:=c.m.put (c.m.M.release y).2 } x ++ l)):=x4;have h6:=bF.cells F2.out;have y8:=h6.2.2.2.2.2.2.2.2.1;have y2:=h6.2.2.2.2.2.2.2.2.2 8;rw [x1.out] at y8;have h7:Hid (∀ j u,r[j]?=some u->w2.cell? ⟨vb,vo+1+j,none⟩=some (.int .i64 u)):=fun j u hu=>by
  have hj:j<r.length:=(List.getElem?_eq_some_iff.1 hu).1;have x2:({ c with m:=c.m.put (c.m.M.release y).2 }:Co).sw=y :: r:=y5.out;obtain ⟨_,_,h3⟩:=G5.s3b F2.out x1.out (k:=j+1) (by rw [x2];simp;omega);rw [x2] at h3;rw [show vo+1+j=vo+(j+1) by omega,h3];simp [gI,hu]
 clear cr x4 y0 F1 h6;go_upto_region 7 with fail;go_wp2_with (at_builtin;refine nX rfl _ _ rfl w2.heap.size _ [] rfl (aK.nil _ _) _ _ _ r rfl ?c0 ?c1 ?c2 ?c3 ?c4 ?c5)
 case c1=>exact HN.out.symm
 case c2.inl=>
  intro j u hu;have hj:j<r.length:=(List.getElem?_eq_some_iff.1 hu).1;have:=HN.out;omega
 case c2.inr=>exact fun j u hu=>h7.out j u hu
 case c3=>simp;omega
 case c4=>exact Nat.le_refl _
 case c5.inl=>
  intro v' w3 d z _;replace z:Only [] w2 w3:=z;have F4:=aA (G5.aGz F2.out z d);obtain ⟨y9,z0,h9⟩:=d.len;subst h9;obtain ⟨n3,h0⟩:∃ n3,n3=r.length:=⟨_,rfl⟩;rw [<-h0] at F4 ⊢;have z8:=(bF.cells (F2.out.aN z)).2.2.2.2.2.2.2.2.1;have z1:=(bF.cells (F2.out.aN z)).2.2.2.2.2.2.2.2.2 8;clear d z y8 y2 F2 h7 h0;go_wp2_with fail;exact HR.out _ _ F4.out
 case c5.inr=>
  intro v' w3 d z _;replace z:Only [] w2 w3:=z;have F4:=aA (G5.aGz F2.out z d);obtain ⟨y9,z0,h9⟩:=d.len;subst h9;obtain ⟨n3,h0⟩:∃ n3,n3=r.length:=⟨_,rfl⟩;rw [<-h0] at F4 ⊢;have z8:=(bF.cells (F2.out.aN z)).2.2.2.2.2.2.2.2.1;have z1:=(bF.cells (F2.out.aN z)).2.2.2.2.2.2.2.2.2 8;clear d z y8 y2 F2 h7 h0;go_wp2_with fail;exact HR.out _ _ F4.out
theorem aKt (w:World) (z:Fam w0 w (G5 b c x ++ l)) (hx:x.ok c) (h:c.Okc) (d:c.ph=3):Calls prog 179 #[.pointer (some ⟨b,0,none⟩)] w (pG w0 l b c.free):=by
 cases hs:c.sw with
 | nil=>exact aKs w z hx h d hs
 | cons y r=>exact aHJ w z hx h d hs
theorem aML (w:World) (z:Fam w0 w (G5 b c x ++ l)):Calls prog 228 #[.pointer (some ⟨x.q,0,none⟩)] w (fun e w'=>e=.returned (.tuple #[.int .i64 c.m.M.move.1,.int .i64 c.m.M.move.2.1])/\Fam w0 w' (G5 b (c.pI (c.m.put c.m.M.move.2.2)) x ++ l)):=
 z.aDn 0 rfl (M':=c.m.M.move.2.2) (fun y=>y.move) (fun L X hr y=>aKn w hr y)
theorem aQy (w:World) (hf:Fam w0 w (G5 b c x ++ l)) (hx:x.ok c) (h:c.Okc) (hp:c.ph=4) (h5:c.mv=8*c.pages\/c.m.M.P.move.2.2.1≠0):Calls prog 180 #[.pointer (some ⟨b,0,none⟩)] w (pG w0 l b c.move):=by
 refine aF fun R hR=>?_;have x3:c.move=(1,{ c with ph:=0,cr:=0 }):=by unfold Co.move;rw [if_pos h5]
 rw [x3] at hR;obtain ⟨hk,L,X,x9⟩:=G5.gh hf;have cp:=aDp w x9;have HP:=aA hk.p;have F0:=aA hf;have x0:=(bF.cells hf).1;have x8:x.on=false:=hx.on.trans (aAZ (by omega) (by omega));have h8:=hx.mv hp;have y1:=hx.mv2;have y8:=h.pg;have HR:Hid (∀ w',Fam w0 w' (G5 b { c with ph:=0,cr:=0 } x ++ l)->R (.returned (.int .i64 1)) w'):=fun w' h2=>hR.out _ _ ⟨rfl,x,⟨by rw [x8];symm;exact aAZ (c:={ c with ph:=0,cr:=0 }) (show (0:Nat)≠1 by decide) (show (0:Nat)≠2 by decide),fun e=>by (cases e),fun e=>by (cases e),y1⟩,h2⟩;have h3:Hid (c.mv=8*c.pages\/c.m.M.P.move.2.2.1≠0):=h5;have h0:=aA h8;clear hf hx h hp hk x9 hR x3 x8 h5 h8;go_in;go_wp2_with fail;refine cp.mono ?_;rintro e w1 ⟨q,k,cc,ll,rfl,hq,x5,_,_,_,_⟩;have c2:=nI w1 q k cc ll _ hq;have h6:=aA x5;clear cp x5 hq;go_wp2_with fail;refine c2.mono ?_;rintro e w2 ⟨q2,k2,y2,y4,rfl,y0,x6,g1,g2,g3,g4⟩;have c3:=xQ w2 q2 k2 y2 y4 _ y0 HP.out;have h7:=aA x6;clear c2 x6 y0;generalize x1:c.m.M.P.move=pm at*;obtain ⟨m1,m2,m3,m4⟩:=pm;go_wp2_with fail;refine c3.mono ?_;rintro e w3 ⟨rfl,_,x7⟩;have F3:Hid (Fam w0 w3 (G5 b c x ++ l)):=F0.out.aN (h6.out.trans (h7.out.trans x7 (fun y hy=>by
  right;simp only [List.mem_cons,List.not_mem_nil,or_false] at hy;rcases hy with rfl|rfl|rfl<;>assumption)) (by simp))
 have z:=bF.cells F3.out;have y6:=z.2.2.2.2.2.2.1;have y7:=z.2.2.2.2.2.2.2.1;clear c3 x7 z h6 h7 F0 x0;have iE:Hid (∀ d,Fam w0 d (G5 b c x ++ l)->d.frozen? ⟨b,3,none⟩=false/\(∃ v,d.cell? ⟨b,3,none⟩=some v)/\(d.setCell ⟨b,3,none⟩ (.int .i64 0)).frozen? ⟨b,4,none⟩=false/\(∃ v,(d.setCell ⟨b,3,none⟩ (.int .i64 0)).cell? ⟨b,4,none⟩=some v)/\Fam w0 ((d.setCell ⟨b,3,none⟩ (.int .i64 0)).setCell ⟨b,4,none⟩ (.int .i64 0)) (G5 b { c with ph:=0,cr:=0 } x ++ l)):=fun d hwx=>by
  have F4:Fam w0 (d.setCell ⟨b,3,none⟩ (.int .i64 0)) (G5 b { c with ph:=0 } x ++ l):=G5.sZ hwx 0;have z:=bF.cells hwx;have h9:=bF.cells F4;exact ⟨z.2.2.2.2.2.2.2.2.2 3,⟨_,z.2.2.2.1⟩,h9.2.2.2.2.2.2.2.2.2 4,⟨_,h9.2.2.2.2.1⟩,G5.aEl F4 0⟩
 by_cases he:m3=0
 ·have x2:c.mv=8*c.pages:=by
   rcases h3.out with h1|h1
   ·exact h1
   exact absurd he h1
  have x4:=h0.out;rw [x4,x2] at y7;clear h3 h0 x1 x4 x2;subst he;obtain ⟨a8,h4⟩:∃ a8:Int,a8=8*(c.pages:Int):=⟨_,rfl⟩;have y3:IntKind.i64.wrap (8*(c.pages:Int))=a8:=by rw [<-h4];exact IntWalk.i64_in (by omega) (by omega)
  replace y7:w3.cell? ⟨b,7,none⟩=some (.int .i64 a8):=by rw [h4];exact y7
  clear h4;generalize (c.pages:Int)=pg at*;go_upto_region 4 with fail;go_quiet (fail);obtain ⟨e1,⟨_,e2⟩,e3,⟨_,e4⟩,F5⟩:=iE.out _ (F3.out.drewN nq);have F6:=aA F5;generalize w3.drewN nq=w4 at*;clear F3 iE F5 y6 y7 y3;go_wp2_with fail;exact HR.out _ F6.out
 have y5:(m3 != 0)=true:=by simpa using he
 clear h3 h0 x1 he;go_upto_region 4 with fail;go_quiet (fail);obtain ⟨e1,⟨_,e2⟩,e3,⟨_,e4⟩,F5⟩:=iE.out _ (F3.out.drewN nq);have F6:=aA F5;generalize w3.drewN nq=w4 at*;clear F3 iE F5 y6 y7;go_wp2_with fail;exact HR.out _ F6.out
theorem aOU (w:World) (hf:Fam w0 w (G5 b c x ++ l)) (hx:x.ok c) (h:c.Okc) (hp:c.ph=4) (h3:¬ (c.mv=8*c.pages\/c.m.M.P.move.2.2.1≠0)):Calls prog 180 #[.pointer (some ⟨b,0,none⟩)] w (pG w0 l b c.move):=by
 refine aF fun R hR=>?_;have y0:c.move=(4+(bsz (c.m.M.P.class (c.m.M.P.move.1.tdiv 16)).1:Int),{ c with m:=c.m.put c.m.M.move.2.2,mv:=c.mv+1 }):=by unfold Co.move;rw [if_neg h3]
 rw [y0] at hR;obtain ⟨hk,L,X,y4⟩:=G5.gh hf;have cp:=aDp w y4;have HP:=aA hk.p;have F0:=aA hf;have x0:=(bF.cells hf).1;have x6:=hx.mv hp;have z8:=h.pg;have z5:=h.mv;have z7:c.mv≠8*c.pages:=fun e=>h3 (.inl e);have he:c.m.M.P.move.2.2.1=0:=Classical.not_not.1 (fun e=>h3 (.inr e));have x1:=oN hk.p he;have x7:(c.m.M.P.class (c.m.M.P.move.1.tdiv 16)).1<=2:=wS hk.p _;have z4:=hk.n24;obtain ⟨y,o,ho,h4,_,_,_,_⟩:=h.hf.aCV he;have x8:0<=(c.m.M.P.class (c.m.M.P.move.1.tdiv 16)).1:=by
  have hb:=h.hf.ok.bk y o ho _ h4;have hc:=h.hf.ok.isC ho (m:=o.place c.m.M.P.move.1) h4;rw [Th.oJ h4] at hb;obtain ⟨i,k,e1,hh⟩:=hb;have a2:=hc.blk hh.kb;have hs:=hc.sz;have a7:=hh.hi;rw [e1,show (((16*i+k*bsz (gI (aS o.slots.length) (o.place c.m.M.P.move.1)):Nat):Int)).tdiv 16=(i:Int) by rw [Int.tdiv_eq_ediv_of_nonneg (by omega)];omega];unfold Pl.class;rw [if_neg (by omega),Int.toNat_natCast,hh.cls];rcases hc with e|e|e<;>omega
 have HR:Hid (∀ w',Fam w0 w' (G5 b { c with m:=c.m.put c.m.M.move.2.2,mv:=c.mv+1 } { x with mv:=c.mv+1 } ++ l)->R (.returned (.int .i64 (4+(bsz (c.m.M.P.class (c.m.M.P.move.1.tdiv 16)).1:Int)))) w'):=fun w' h2=>hR.out _ _ ⟨rfl,{ x with mv:=c.mv+1 },⟨hx.on,fun _=>rfl,fun _ e=>absurd (show c.ph<=3 from e) (by omega),by show c.mv+1<=192;omega⟩,h2⟩;have x2:=aA x6;have a9:c.mv<=191:=by omega
 have z3:c.mv<8*c.pages:=by omega
 obtain ⟨fr,h0⟩:∃ f,f=c.m.M.P.move.1:=⟨_,rfl⟩;have z2:=aA h0;have y8:0<=fr:=by rw [h0];exact x1.2.1
 have a5:fr<384:=by rw [h0];have:=x1.2.2.2.1;omega
 obtain ⟨d,hd⟩:∃ d,d=fr.tdiv 16:=⟨_,rfl⟩;have a6:0<=d/\d<=24:=by rw [hd,Int.tdiv_eq_ediv_of_nonneg y8];omega
 rw [<-h0,<-hd] at HR x8 x7;have a3:fr.tdiv 16=d:=hd.symm;obtain ⟨cl,h9⟩:∃ k,k=(c.m.M.P.class d).1:=⟨_,rfl⟩;have z1:=aA h9;rw [<-h9] at HR x8 x7;have HE:=aA he;clear hf hx h hp hk y4 hR y0 h3 x6 z7 he x1 z4 ho h4 h0 hd h9 z5;go_in;go_wp2_with fail;refine cp.mono ?_;rintro e w1 ⟨q,k,cc,ll,rfl,hq,y1,_,_,_,_⟩;have c2:=nI w1 q k cc ll _ hq;have x3:=aA y1;have HQ:=aA hq;clear cp y1 hq;go_wp2_with fail;refine c2.mono ?_;rintro e w2 ⟨q2,k2,z6,a0,rfl,y5,y2,g1,g2,g3,g4⟩;have c3:=xQ w2 q2 k2 z6 a0 _ y5 HP.out;rw [<-z2.out,HE.out] at c3;have x4:=aA y2;clear c2 y2 y5;generalize c.m.M.P.move.2.1=b1 at*;go_wp2_with fail;refine c3.mono ?_;rintro e w3 ⟨rfl,_,y3⟩;have h5:Only [] w1 w3:=x4.out.trans y3 (fun y hy=>by
  right;simp only [List.mem_cons,List.not_mem_nil,or_false] at hy;rcases hy with rfl|rfl|rfl<;>assumption)
 have F3:Hid (Fam w0 w3 (G5 b c x ++ l)):=F0.out.aN (x3.out.trans h5 (by simp));have x5:Hid (eH w3 q k cc ll c.m.M.P):=HQ.out.only h5 (by simp) (by simp) (by simp) (by simp);have z:=bF.cells F3.out;have y6:=z.2.2.2.2.2.2.1;have y7:=z.2.2.2.2.2.2.2.1;rw [x2.out] at y7;clear c3 y3 h5 z x3 x4 F0 x0 HQ;obtain ⟨a8,h7⟩:∃ a8:Int,a8=8*(c.pages:Int):=⟨_,rfl⟩;have z9:IntKind.i64.wrap (8*(c.pages:Int))=a8:=by rw [<-h7];exact IntWalk.i64_in (by omega) (by omega)
 have y9:((c.mv:Int) == a8)=false:=by rw [h7];simp;omega
 clear h7 z3 z8;generalize (c.pages:Int)=pg at*;generalize a4:c.mv=mv at*;go_upto_region 4 with fail;go_quiet (fail);have F4:=aA (F3.out.drewN nq);have h6:=aGK (w3.drewN nq) q k cc ll _ (x5.out.only ((Only.refl [] _).drewN nq) (by simp) (by simp) (by simp) (by simp)) d;rw [<-z1.out] at h6;generalize (c.m.M.P.class d).2=ce at*;have cg:=aML (w3.drewN nq) F4.out;have z0:=(bF.cells F4.out).1;generalize w3.drewN nq=w4 at*;clear F3 x5 y6 y7 z9 y9;go_wp2_with fail;refine h6.mono ?_;rintro e _ ⟨rfl,rfl⟩;clear h6;generalize c.m.M.move.1=r1 at*;generalize c.m.M.move.2.1=r2 at*;go_wp2_with fail;refine cg.mono ?_;rintro e w5 ⟨rfl,x9⟩;have F5:Hid (Fam w0 w5 (G5 b { c with m:=c.m.put c.m.M.move.2.2 } x ++ l)):=x9;have z:=bF.cells F5.out;have y7:=z.2.2.2.2.2.2.2.1;have a1:=z.2.2.2.2.2.2.2.2.2 7;rw [x2.out] at y7;have F6:Hid (Fam w0 (w5.setCell ⟨b,7,none⟩ (.int .i64 ((mv+1:Nat):Int))) (G5 b { c with m:=c.m.put c.m.M.move.2.2,mv:=mv+1 } { x with mv:=mv+1 } ++ l)):=G5.aLR F5.out (mv+1);have h8:IsC cl:=by unfold IsC;omega
 have b0:=h8.sz;clear cg x9 z F4 z0;go_upto_region 11 with fail;have h1:((mv:Int)+1)=((mv+1:Nat):Int):=by omega
 rw [h1];generalize w5.setCell ⟨b,7,none⟩ (.int .i64 ((mv+1:Nat):Int))=w6 at*;clear y7 a1 F5 h1;have cu:=zS w6 cl h8;clear h8;generalize bsz cl=sz at*;go_wp2_with fail;refine cu.mono ?_;rintro e _ ⟨rfl,rfl⟩;clear cu;go_wp2_with fail;exact HR.out _ F6.out
theorem aOV (w:World) (z:Fam w0 w (G5 b c x ++ l)) (hx:x.ok c) (h:c.Okc) (d:c.ph=4):Calls prog 180 #[.pointer (some ⟨b,0,none⟩)] w (pG w0 l b c.move):=by
 by_cases y:c.mv=8*c.pages\/c.m.M.P.move.2.2.1≠0
 ·exact aQy w z hx h d y
 exact aOU w z hx h d y
end
end Go.Proofs.YthflghdaejbdkaaGreat
