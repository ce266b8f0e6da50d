/- Lemmas of this claim. -/
import Derived.Test.YthflghdaejbdkaaGreatXdCyG
namespace Go.Proofs.YthflghdaejbdkaaGreat
open _root_.Go.Proofs.Tryz (prog)
open Go.RowKit Go.Maps
set_option maxHeartbeats 6400000
set_option maxRecDepth 100000
set_option linter.unusedVariables false
section
variable {w0 w w':World} {l:List Asn} {b:Nat} {c:Co} {x:GX5} {i:Nat} {m:Mk} {t:Tb}
theorem Fam.hole (h:Fam w0 w l) (i:Nat):Fam w0 w (l.set i NoA):=by
 obtain ⟨h0,S,h1,h2,h3⟩:=h;refine ⟨h0,fun j=>if j=i then (fun _=>False) else S j,fun j A hj=>?_,fun a b ha hb hab k=>?_,fun j hj k hk=>?_⟩
 ·by_cases e:j=i
  ·simp only [e,if_true];rw [e,List.getElem?_set] at hj;split at hj
   ·split at hj
    ·cases hj;exact fun _ h=>h
    cases hj
   rename_i hne;exact absurd rfl hne
  simp only [e,if_false];rw [List.getElem?_set_ne (fun x=>e x.symm)] at hj;exact h1 j A hj
 ·rw [List.length_set] at ha hb
  by_cases ea:a=i
  ·simp only [ea,if_true];exact fun h=>h.elim
  simp only [ea,if_false]
  by_cases eb:b=i
  ·simp only [eb,if_true];exact fun _ h=>h
  simp only [eb,if_false];exact h2 a b ha hb hab k
 rw [List.length_set] at hj
 by_cases e:j=i
 ·simp only [e,if_true] at hk
 simp only [e,if_false] at hk;exact h3 j hj k hk
theorem G5.drop (hf:Fam w0 w (G5 b c x ++ l)):Fam w0 (w.setCell ⟨b,2,none⟩ (.pointer none)) (G5 b c { x with on:=false } ++ l):=by
 have h1:Fam w0 (w.setCell ⟨b,2,none⟩ (.pointer none)) _:=hf.bQ 4 rfl 2 (.pointer none);exact h1.hole 1
theorem tC (w:World) (hf:Fam w0 w (G5 b c x ++ l)) (ho:x.on=true) (h:c.Okc) (hp:c.ph=2):Calls prog 69 #[.pointer (some ⟨x.ub,0,none⟩),.pointer (some ⟨x.r,0,none⟩)] w (fun e w'=>e=.returned (.tuple #[.int .i64 (c.t.step c.m).1,.int .i64 (c.t.step c.m).2.1,.int .i64 (c.t.step c.m).2.2.1])/\Fam w0 w' (G5 b c.stepT x ++ l)):=by
 have:=aFE w (G5.t3 (b:=b) (c:=c) (x:=x) (l:=l)) (G5.toQ ho hf) h.tg (h.mo (.inr hp));rw [G5.ql ho] at this;exact this
theorem G5.p12 (ho:x.on=true) (hf:Fam w0 w (G5 b c x ++ l)):w.cell? ⟨b,1,none⟩=some (.pointer (some ⟨x.ub,0,none⟩))/\w.cell? ⟨b,2,none⟩=some (.pointer (some ⟨x.r,0,none⟩)):=⟨(aY.cells hf).2.1,G5.m2 ho hf⟩
theorem aJG (hp:c.ph=2):c.bar=true:=dD.2 (.inr hp)
theorem aLk (w:World) (hf:Fam w0 w (G5 b c x ++ l)) (hx:x.ok c) (h:c.Okc) (hp:c.ph=2) (he:(c.t.step c.m).2.2.1=0):Calls prog 178 #[.pointer (some ⟨b,0,none⟩)] w (oG w0 l b c.refs):=by
 refine aF fun R hR=>?_;have hon:x.on=true:=hx.on.trans (aJG hp);have F0:=aA hf;have HON:=aA hon;have HC:Hid (∀ wx,Fam w0 wx (G5 b c x ++ l)->Calls prog 69 #[.pointer (some ⟨x.ub,0,none⟩),.pointer (some ⟨x.r,0,none⟩)] wx (fun e w'=>e=.returned (.tuple #[.int .i64 (c.t.step c.m).1,.int .i64 (c.t.step c.m).2.1,.int .i64 0])/\Fam w0 w' (G5 b c.stepT x ++ l))):=fun wx hx=>by
  have:=tC wx hx hon h hp;rw [he] at this;exact this
 have hlr:=eX (h.stepT hp).1.hf.ok (c.t.step c.m).2.1;have HM:Hid (c.stepT.m.M=c.m.M):=(h.tg.step (h.mo (.inr hp))).2.2.1;have HR:Hid (∀ v w',v=(if (c.t.step c.m).1=3 then 1+c.stepT.m.M.len (c.t.step c.m).2.1 else 1)->Fam w0 w' (G5 b c.stepT x ++ l)->R (.returned (.int .i64 v)) w'):=fun v w' h1 h2=>hR.out _ _ ⟨by rw [h1,HM.out,Co.iI,if_pos he],x,⟨by rw [Co.iI,if_pos he];exact hx.on,by rw [Co.iI,if_pos he];exact hx.mv,by rw [Co.iI,if_pos he];exact hx.m0,hx.mv2⟩,by rw [Co.iI,if_pos he];exact h2⟩;clear hf hx h hp hR hon he;go_in;go_upto_region 1 with fail;generalize (c.t.step c.m).1=a1 at*;generalize (c.t.step c.m).2.1=a2 at*;go_region_held3 (fun w'=>w'.cell? ⟨b,1,none⟩=some (.pointer (some ⟨x.ub,0,none⟩))/\w'.cell? ⟨b,2,none⟩=some (.pointer (some ⟨x.r,0,none⟩)))
  (first|(exact G5.p12 HON.out F0.out.drew)|(exact G5.p12 HON.out F0.out)|(exact G5.p12 HON.out f3))
  (first|(go_at_call 69;refine (HC.out _ F0.out.drew).mono ?_;rintro e w3 ⟨rfl,f3⟩))
 have F3:=aA f3;clear f3 HC F0;have cl:=aAW w3 F3.out a2
 by_cases h3:a1=3
 ·have HR2:Hid (∀ w',Fam w0 w' (G5 b c.stepT x ++ l)->R (.returned (.int .i64 (1+c.stepT.m.M.len a2))) w'):=fun w' hf=>HR.out _ w' (by rw [if_pos h3]) hf;subst h3;clear HR HM;generalize c.stepT.m.M.len a2=n at*;go_wp2_with fail;refine cl.mono ?_;rintro e w4 ⟨rfl,ho⟩;have F4:=aA (F3.out.aN ho);clear cl ho F3;go_wp2_with fail;exact HR2.out _ F4.out
 have HR2:Hid (∀ w',Fam w0 w' (G5 b c.stepT x ++ l)->R (.returned (.int .i64 1)) w'):=fun w' hf=>HR.out _ w' (by rw [if_neg h3]) hf;have h3b:(a1 == 3)=false:=by simpa using h3
 clear HR HM cl h3;go_wp2_with fail;exact HR2.out _ F3.out
theorem aGx (w:World) (hf:Fam w0 w (G5 b c x ++ l)) (hx:x.ok c) (h:c.Okc) (hp:c.ph=2) (he:(c.t.step c.m).2.2.1≠0) (hl:c.stepT.m.list≠[]):Calls prog 178 #[.pointer (some ⟨b,0,none⟩)] w (oG w0 l b c.refs):=by
 refine aF fun R hR=>?_;have hon:x.on=true:=hx.on.trans (aJG hp);have F0:=aA hf;have HON:=aA hon;have HC:Hid (∀ wx,Fam w0 wx (G5 b c x ++ l)->Calls prog 69 #[.pointer (some ⟨x.ub,0,none⟩),.pointer (some ⟨x.r,0,none⟩)] wx (fun e w'=>e=.returned (.tuple #[.int .i64 (c.t.step c.m).1,.int .i64 (c.t.step c.m).2.1,.int .i64 (c.t.step c.m).2.2.1])/\Fam w0 w' (G5 b c.stepT x ++ l))):=fun wx hx=>tC wx hx hon h hp;have hrefs:c.refs=c.stepT.mark:=by rw [Co.iI,if_neg he];unfold Co.tail;rw [if_neg hl]
 rw [hrefs] at hR;have hk:=(h.stepT hp).1;have HM:Hid (∀ wx,Fam w0 wx (G5 b c.stepT x ++ l)->Calls prog 177 #[.pointer (some ⟨b,0,none⟩)] wx (oG w0 l b c.stepT.mark)):=fun wx hwx=>aCH wx hwx ⟨hx.on,hx.mv,hx.m0,hx.mv2⟩ hk (.inr hp);have HD:Hid (∀ wx,Fam w0 wx (G5 b c.stepT x ++ l)->Calls prog 71 #[.pointer (some ⟨x.r,0,none⟩)] wx (aK wx (.bool false))):=fun wx hwx=>by
  have:=jT wx (G5.t2 (b:=b) (c:=c.stepT) (x:=x) (l:=l)) (G5.toR hon hwx);rw [decide_eq_false hl] at this;exact this
 have heb:((c.t.step c.m).2.2.1 == 0)=false:=by simpa using he
 clear hf hx h hp hon he hl hrefs hk;go_in;go_upto_region 1 with fail;generalize (c.t.step c.m).1=a1 at*;generalize (c.t.step c.m).2.1=a2 at*;generalize (c.t.step c.m).2.2.1=a3 at*;go_region_held3 (fun w'=>w'.cell? ⟨b,1,none⟩=some (.pointer (some ⟨x.ub,0,none⟩))/\w'.cell? ⟨b,2,none⟩=some (.pointer (some ⟨x.r,0,none⟩)))
  (first|(exact G5.p12 HON.out F0.out.drew)|(exact G5.p12 HON.out F0.out)|(exact G5.p12 HON.out f3))
  (first|(go_at_call 69;refine (HC.out _ F0.out.drew).mono ?_;rintro e w3 ⟨rfl,f3⟩))
 have cd:=HD.out w3 f3;have cm:=HM.out w3 f3;have z2:=G5.m2 HON.out f3;clear f3 HC F0 HD HM;go_wp2_with fail;refine cd.mono ?_;rintro e _ ⟨rfl,rfl⟩;clear cd;go_wp2_with fail;refine cm.mono ?_;rintro e w4 ⟨rfl,hd⟩;have HE:=aA hd;clear cm hd z2;go_wp2_with fail;exact hR.out _ _ ⟨rfl,HE.out⟩
theorem aCJ (w:World) (hf:Fam w0 w (G5 b c x ++ l)) (h s v:Int):Calls prog 144 #[.pointer (some ⟨x.q,0,none⟩),.int .i64 h,.int .i64 s,.int .i64 v] w (fun e w'=>e=.returned (.int .i64 (c.m.M.set h s v).1)/\Fam w0 w' (G5 b (c.oH (c.m.put (c.m.M.set h s v).2)) x ++ l)):=
 hf.aCA 0 rfl (M':=(c.m.M.set h s v).2) (fun hk=>hk.set h s v) (fun L X hr hk=>aEW w hr hk h s v)
theorem G5.s3 (hf:Fam w0 w (G5 b c x ++ l)) {va:Option Addr} {n vc k:Nat} (hv:x.sv=.slice va n vc) (hk:k<c.sw.length):∃ vb vo,va=some ⟨vb,vo,none⟩/\w.cell? ⟨b,0,none⟩=some (.pointer (some ⟨x.q,0,none⟩))/\w.cell? ⟨b,8,none⟩=some (.slice (some ⟨vb,vo,none⟩) n vc)/\w.cell? ⟨vb,vo+k,none⟩=some (.int .i64 (gI c.sw k)):=by
 have hs:=G5.sw hf;rw [hv] at hs;obtain ⟨vb,vo,e,hc⟩:=hs.read.at hk;have hcs:=aY.cells hf;rw [hv,e] at hcs;exact ⟨vb,vo,e,hcs.1,hcs.2.2.2.2.2.2.2.2.1,hc⟩
theorem G5.s3b (hf:Fam w0 w (G5 b c x ++ l)) {vb vo n vc k:Nat} (hv:x.sv=.slice (some ⟨vb,vo,none⟩) n vc) (hk:k<c.sw.length):w.cell? ⟨b,0,none⟩=some (.pointer (some ⟨x.q,0,none⟩))/\w.cell? ⟨b,8,none⟩=some (.slice (some ⟨vb,vo,none⟩) n vc)/\w.cell? ⟨vb,vo+k,none⟩=some (.int .i64 (gI c.sw k)):=by
 obtain ⟨vb',vo',e,h⟩:=G5.s3 hf hv hk
 cases e
 exact h
def Co.swp (c:Co) (s:List Int) (k:Nat):Co:={ c with sw:=s,m:=c.m.put (c.m.M.dA s k) }
def Co.aHA (c:Co) (s:List Int) (k j:Nat):Co:={ c with sw:=s,m:=c.m.put ((c.m.M.dA s k).bT (gI s k) j) }
theorem aDW (w:World) (hf:Fam w0 w (G5 b c x ++ l)) (hx:x.ok c) (h:c.Okc) (hp:c.ph=2) (he:(c.t.step c.m).2.2.1≠0) (hl:c.stepT.m.list=[]):Calls prog 178 #[.pointer (some ⟨b,0,none⟩)] w (oG w0 l b c.refs):=by
 refine aF fun R hR=>?_;have hon:x.on=true:=hx.on.trans (aJG hp);have F0:=aA hf;have HON:=aA hon;have HC:Hid (∀ wx,Fam w0 wx (G5 b c x ++ l)->Calls prog 69 #[.pointer (some ⟨x.ub,0,none⟩),.pointer (some ⟨x.r,0,none⟩)] wx (fun e w'=>e=.returned (.tuple #[.int .i64 (c.t.step c.m).1,.int .i64 (c.t.step c.m).2.1,.int .i64 (c.t.step c.m).2.2.1])/\Fam w0 w' (G5 b c.stepT x ++ l))):=fun wx hx=>tC wx hx hon h hp;obtain ⟨s,hs⟩:∃ s,s=c.stepT.m.white:=⟨_,rfl⟩;have hwl:s.length<=192:=by rw [hs];exact vV c.stepT.m
 have hrefs:c.refs=c.stepT.gX s:=by rw [Co.iI,if_neg he];unfold Co.tail;rw [if_pos hl,hs];rfl
 rw [hrefs] at hR;have hkT:=(h.stepT hp).1;have HK:Hid (∀ k,(c.stepT.m.M.dA s k).Ok):=fun k=>(uG hkT.hf s k).1.ok;have HD:Hid (∀ wx,Fam w0 wx (G5 b c.stepT x ++ l)->Calls prog 71 #[.pointer (some ⟨x.r,0,none⟩)] wx (aK wx (.bool true))):=fun wx hwx=>by
  have:=jT wx (G5.t2 (b:=b) (c:=c.stepT) (x:=x) (l:=l)) (G5.toR hon hwx);rw [decide_eq_true hl] at this;exact this
 have HW:Hid (∀ wx,Fam w0 wx (G5 b c.stepT x ++ l)->Calls prog 223 #[.pointer (some ⟨x.r,0,none⟩)] wx (aMq wx s)):=fun wx hwx=>by
  have:=aGu wx (G5.t2 (b:=b) (c:=c.stepT) (x:=x) (l:=l)) (G5.toR hon hwx);rw [hs];exact this
 have aDg:=hx.mv2;have hm0:x.mv=0:=hx.m0 (by omega) (by omega);have HR:Hid (∀ w' v,Fam w0 w' (G5 b (c.stepT.gX s).2 { x with sv:=v,on:=false } ++ l)->R (.returned (.int .i64 1)) w'):=fun w' v h2=>hR.out _ _ ⟨rfl,{ x with sv:=v,on:=false },⟨by show false=decide _;simp [Co.gX],fun e=>by (cases e),fun _ _=>hm0,aDg⟩,h2⟩;have heb:((c.t.step c.m).2.2.1 == 0)=false:=by simpa using he
 clear hf hx h hp hon he hl hrefs hs hkT aDg hm0 hR;go_in;go_upto_region 1 with fail;generalize (c.t.step c.m).1=a1 at*;generalize (c.t.step c.m).2.1=a2 at*;generalize (c.t.step c.m).2.2.1=a3 at*;go_region_held3 (fun w'=>w'.cell? ⟨b,1,none⟩=some (.pointer (some ⟨x.ub,0,none⟩))/\w'.cell? ⟨b,2,none⟩=some (.pointer (some ⟨x.r,0,none⟩)))
  (first|(exact G5.p12 HON.out F0.out.drew)|(exact G5.p12 HON.out F0.out)|(exact G5.p12 HON.out f3))
  (first|(go_at_call 69;refine (HC.out _ F0.out.drew).mono ?_;rintro e w3 ⟨rfl,f3⟩))
 have F3:=aA f3;have cd:=HD.out w3 f3;have cw:=HW.out w3 f3;have z2:=G5.m2 HON.out f3;clear f3 HC F0 HD HW;generalize c.stepT=c1 at*;go_wp2_with fail;refine cd.mono ?_;rintro e _ ⟨rfl,rfl⟩;clear cd;go_wp2_with fail;refine cw.mono ?_;rintro e w4 ⟨v,rfl,hi,ho⟩;have y8f:=(aY.cells (F3.out.aN ho)).2.2.2.2.2.2.2.2.2 8;have y8:=(aY.cells (F3.out.aN ho)).2.2.2.2.2.2.2.2.1;have F4:Hid (Fam w0 (w4.setCell ⟨b,8,none⟩ v) (G5 b (c1.swp s 0) { x with sv:=v } ++ l)):=G5.aFB F3.out ho hi;obtain ⟨va,vc,hv⟩:=hi.len;subst hv;clear hi ho cw z2 F3;obtain ⟨n,hn⟩:∃ n,n=s.length:=⟨_,rfl⟩;have HN:=aA hn;rw [<-hn] at F4 hwl ⊢;clear hn;go_upto_region 9 with fail;generalize w4.setCell ⟨b,8,none⟩ (.slice va n vc)=w5 at*;clear y8f y8;go_wp2_with fail;go_loopw [6] (fun iv wr=>∃ k:Nat,k<=n/\iv=.int .i64 k/\Fam w0 wr (G5 b (c1.swp s k) { x with sv:=.slice va n vc } ++ l)) (fun iv _=>n - (intOf iv).toNat)
 case atStart=>exact ⟨0,by omega,rfl,F4.out⟩
 case round=>as_aux_lemma=>
  clear F4;obtain ⟨k,hk,rfl,hf⟩:=hrel
  by_cases hlt:k<n
  ·have hlt1:(k:Int)<(n:Int):=by omega
   have hk0:(0:Int)<=(k:Int):=by omega
   have hks:k<s.length:=by rw [<-HN.out];exact hlt
   have HKS:=aA hks;have F6:=aA hf;obtain ⟨vb,vo,rfl,x0,x8,xe⟩:=G5.s3 hf (x:={ x with sv:=.slice va n vc }) rfl hks;replace xe:wr.cell? ⟨vb,vo+k,none⟩=some (.int .i64 (gI s k)):=xe;have cl:=aAW wr hf (gI s k);replace cl:Calls prog 222 #[.pointer (some ⟨b,0,none⟩),.int .i64 (gI s k)] wr (fun e w'=>e=.returned (.int .i64 ((c1.m.M.dA s k).len (gI s k)))/\Only [] wr w'):=cl;have hlr:=eX (HK.out k) (gI s k);obtain ⟨ln,hln⟩:∃ ln:Nat,(c1.m.M.dA s k).len (gI s k)=(ln:Int):=⟨((c1.m.M.dA s k).len (gI s k)).toNat,by omega⟩;have HB:Hid (c1.aHA s k ln=c1.swp s (k+1)):=by
    show _=_;unfold Co.aHA Co.swp;show _={ c1 with sw:=s,m:=c1.m.put ((c1.m.M.dA s k).blank (gI s k)) };unfold Hp.blank;rw [hln];rfl
   rw [hln] at cl hlr;clear hln hks hf;obtain ⟨y,hy⟩:∃ y,y=gI s k:=⟨_,rfl⟩;have HY:=aA hy;rw [<-hy] at cl xe;clear hy;go_wp2_with fail;refine cl.mono ?_;rintro e w6 ⟨rfl,ho⟩;have F7:Hid (Fam w0 w6 (G5 b (c1.aHA s k 0) { x with sv:=.slice (some ⟨vb,vo,none⟩) n vc } ++ l)):=F6.out.aN ho;clear cl ho x0 x8 xe F6;go_wp2_with fail;go_loopw [8] (fun iv wr=>∃ j:Nat,j<=ln/\iv=.int .i64 j/\Fam w0 wr (G5 b (c1.aHA s k j) { x with sv:=.slice (some ⟨vb,vo,none⟩) n vc } ++ l)) (fun iv _=>ln - (intOf iv).toNat)
   case atStart=>exact ⟨0,by omega,rfl,F7.out⟩
   case round=>as_aux_lemma=>
    clear F7;obtain ⟨j,hj,rfl,hf⟩:=hrel
    by_cases hlj:j<ln
    ·have aSC:(j:Int)<(ln:Int):=by omega
     have hj0:(0:Int)<=(j:Int):=by omega
     have F8:=aA hf;obtain ⟨hok,L,X,hpr⟩:=G5.gh hf;have HS:Hid (∀ wx (m':Mk),Fam w0 wx (G5 b { c1 with sw:=s,m:=m' } { x with sv:=.slice (some ⟨vb,vo,none⟩) n vc } ++ l)->wx.cell? ⟨b,0,none⟩=some (.pointer (some ⟨x.q,0,none⟩))/\wx.cell? ⟨b,8,none⟩=some (.slice (some ⟨vb,vo,none⟩) n vc)/\wx.cell? ⟨vb,vo+k,none⟩=some (.int .i64 y)):=fun wx m' hwx=>by
      have:=G5.s3b hwx (x:={ x with sv:=.slice (some ⟨vb,vo,none⟩) n vc }) rfl HKS.out;rw [HY.out];exact this
     have C1:Hid (∀ wx,Fam w0 wx (G5 b (c1.aHA s k j) { x with sv:=.slice (some ⟨vb,vo,none⟩) n vc } ++ l)->Calls prog 176 #[.pointer (some ⟨x.q,0,none⟩),.int .i64 y,.int .i64 (j:Int)] wx (aK wx (.tuple #[.bool (((c1.m.M.dA s k).bT (gI s k) j).isRef y (j:Int)).1,.int .i64 (((c1.m.M.dA s k).bT (gI s k) j).isRef y (j:Int)).2]))):=fun wx hwx=>by
      obtain ⟨hok,L,X,hpr⟩:=G5.gh hwx;exact tJ wx hpr hok y (j:Int)
     have C2:Hid (∀ wx,Fam w0 wx (G5 b (c1.aHA s k j) { x with sv:=.slice (some ⟨vb,vo,none⟩) n vc } ++ l)->Calls prog 144 #[.pointer (some ⟨x.q,0,none⟩),.int .i64 y,.int .i64 (j:Int),.int .i64 0] wx (fun e w'=>e=.returned (.int .i64 (((c1.m.M.dA s k).bT (gI s k) j).set y (j:Int) 0).1)/\Fam w0 w' (G5 b { c1 with sw:=s,m:=c1.m.put (((c1.m.M.dA s k).bT (gI s k) j).set y (j:Int) 0).2 } { x with sv:=.slice (some ⟨vb,vo,none⟩) n vc } ++ l))):=fun wx hwx=>aCJ wx hwx y (j:Int) 0;have HSU:Hid ((c1.m.M.dA s k).bT (gI s k) (j+1)=if (((c1.m.M.dA s k).bT (gI s k) j).isRef (gI s k) (j:Int)).1=true then (((c1.m.M.dA s k).bT (gI s k) j).set (gI s k) (j:Int) 0).2 else (c1.m.M.dA s k).bT (gI s k) j):=rfl;rw [<-HY.out] at HSU C1 C2;clear hf hok hpr
     cases hr:(((c1.m.M.dA s k).bT y j).isRef y (j:Int)).1 with
     | true=>
      rw [hr] at C1;have HN2:Hid (∀ wx,Fam w0 wx (G5 b { c1 with sw:=s,m:=c1.m.put (((c1.m.M.dA s k).bT y j).set y (j:Int) 0).2 } { x with sv:=.slice (some ⟨vb,vo,none⟩) n vc } ++ l)->Fam w0 wx (G5 b (c1.aHA s k (j+1)) { x with sv:=.slice (some ⟨vb,vo,none⟩) n vc } ++ l)):=fun wx hwx=>by
       unfold Co.aHA;rw [<-HY.out,HSU.out,if_pos hr];exact hwx
      clear HSU hr;generalize (((c1.m.M.dA s k).bT y j).isRef y (j:Int)).2=y1 at*;generalize (((c1.m.M.dA s k).bT y j).set y (j:Int) 0).1=y2 at*;go_upto_region 16 with fail;go_region_held3 (fun w'=>w'.cell? ⟨b,0,none⟩=some (.pointer (some ⟨x.q,0,none⟩))/\w'.cell? ⟨b,8,none⟩=some (.slice (some ⟨vb,vo,none⟩) n vc)/\w'.cell? ⟨vb,vo+k,none⟩=some (.int .i64 y))
       (first|(exact HS.out _ _ F8.out)|(exact HS.out _ _ F8.out.drew))
       (first|(go_at_call 176;refine (C1.out _ F8.out.drew).mono ?_;rintro e _ ⟨rfl,rfl⟩))
      have F9:=aA F8.out.drew;generalize wr.drew=w8 at*;clear C1 F8;go_upto_region 18 with fail;go_region_held3 (fun w'=>w'.cell? ⟨b,0,none⟩=some (.pointer (some ⟨x.q,0,none⟩))/\w'.cell? ⟨b,8,none⟩=some (.slice (some ⟨vb,vo,none⟩) n vc)/\w'.cell? ⟨vb,vo+k,none⟩=some (.int .i64 y))
       (first|(exact HS.out _ _ F9.out)|(exact HS.out _ _ F9.out.drew)|(exact HS.out _ _ f9))
       (first|(go_at_call 144;refine (C2.out _ F9.out.drew).mono ?_;rintro e w9 ⟨rfl,f9⟩))
      have F10:=aA (HN2.out _ f9);clear f9 C2 F9 HN2 HS;go_wp2_with fail;exact ⟨⟨j+1,by omega,by go_num,F10.out⟩,by simp [intOf];omega⟩
     | false=>
      rw [hr] at C1;have HN2:Hid (∀ wx,Fam w0 wx (G5 b (c1.aHA s k j) { x with sv:=.slice (some ⟨vb,vo,none⟩) n vc } ++ l)->Fam w0 wx (G5 b (c1.aHA s k (j+1)) { x with sv:=.slice (some ⟨vb,vo,none⟩) n vc } ++ l)):=fun wx hwx=>by
       unfold Co.aHA at hwx ⊢;rw [<-HY.out] at hwx ⊢;rw [HSU.out,if_neg (by rw [hr];decide)];exact hwx
      clear HSU hr C2;generalize (((c1.m.M.dA s k).bT y j).isRef y (j:Int)).2=y1 at*;go_upto_region 16 with fail;go_region_held3 (fun w'=>w'.cell? ⟨b,0,none⟩=some (.pointer (some ⟨x.q,0,none⟩))/\w'.cell? ⟨b,8,none⟩=some (.slice (some ⟨vb,vo,none⟩) n vc)/\w'.cell? ⟨vb,vo+k,none⟩=some (.int .i64 y))
       (first|(exact HS.out _ _ F8.out)|(exact HS.out _ _ F8.out.drew))
       (first|(go_at_call 176;refine (C1.out _ F8.out.drew).mono ?_;rintro e _ ⟨rfl,rfl⟩))
      have F9:=aA (HN2.out _ F8.out.drew);generalize wr.drew=w8 at*;clear C1 F8 HN2 HS;go_wp2_with fail;exact ⟨⟨j+1,by omega,by go_num,F9.out⟩,by simp [intOf];omega⟩
    obtain rfl:j=ln:=by omega
    have aSC:¬ (j:Int)<(j:Int):=by omega
    rw [HB.out] at hf;have F8:=aA hf;clear hf HB;go_wp2_with fail;exact ⟨⟨k+1,by omega,by go_num,F8.out⟩,by simp [intOf];omega⟩
  obtain rfl:k=n:=by omega
  have hlt1:¬ (k:Int)<(k:Int):=by omega
  have F6:=aA hf;have y2:=(aY.cells hf).2.2.1;have y8:=(aY.cells hf).2.2.2.2.2.2.2.2.1;have y2f:=(aY.cells hf).2.2.2.2.2.2.2.2.2 2;have F7:Hid (Fam w0 (wr.setCell ⟨b,2,none⟩ (.pointer none)) (G5 b (c1.swp s k) { x with sv:=.slice va k vc,on:=false } ++ l)):=G5.drop hf;have y3f:=(aY.cells F7.out).2.2.2.2.2.2.2.2.2 3;have y3:=(aY.cells F7.out).2.2.2.1;have F8:Hid (Fam w0 ((wr.setCell ⟨b,2,none⟩ (.pointer none)).setCell ⟨b,3,none⟩ (.int .i64 3)) (G5 b (c1.gX s).2 { x with sv:=.slice va k vc,on:=false } ++ l)):=by
   have:=G5.rX F7.out 3;rw [HN.out] at this ⊢;exact this
  clear hf F6;go_wp2_with fail;exact HR.out _ _ F8.out
theorem aIU (w:World) (hf:Fam w0 w (G5 b c x ++ l)) (hx:x.ok c) (h:c.Okc) (hp:c.ph=2):Calls prog 178 #[.pointer (some ⟨b,0,none⟩)] w (oG w0 l b c.refs):=by
 by_cases he:(c.t.step c.m).2.2.1=0
 ·exact aLk w hf hx h hp he
 by_cases hl:c.stepT.m.list=[]
 ·exact aDW w hf hx h hp he hl
 exact aGx w hf hx h hp he hl
end
section
variable {w0 w w':World} {l:List Asn} {b:Nat} {c:Co} {x:GX5} {i:Nat} {m:Mk} {t:Tb}
theorem aAs (h1:c.ph≠1) (h2:c.ph≠2):c.bar=false:=by unfold Co.bar;exact decide_eq_false (by omega)
theorem aJd (w:World) (hf:Fam w0 w (G5 b c x ++ l)) (hx:x.ok c) (h:c.Okc) (hp:c.ph=3) (hs:c.sw=[]):Calls prog 179 #[.pointer (some ⟨b,0,none⟩)] w (oG w0 l b c.free):=by
 refine aF fun R hR=>?_;have hfr:c.free=(1,{ c with ph:=4,mv:=0 }):=by unfold Co.free;rw [hs]
 rw [hfr] at hR;have hcs:=aY.cells hf;have x8:=hcs.2.2.2.2.2.2.2.2.1;have x3:=hcs.2.2.2.1;have x3f:=hcs.2.2.2.2.2.2.2.2.2 3;obtain ⟨sa,sc,hv⟩:=(G5.sw hf).len;rw [hs] at hv;rw [hv] at x8;have hon:x.on=false:=hx.on.trans (aAs (by omega) (by omega));have hm0:x.mv=0:=hx.m0 (by omega) (by omega);have aDg:=hx.mv2;have F1:Hid (Fam w0 (w.setCell ⟨b,3,none⟩ (.int .i64 4)) (G5 b { c with ph:=4,mv:=0 } x ++ l)):=G5.rX hf 4;have HR:Hid (∀ w',Fam w0 w' (G5 b { c with ph:=4,mv:=0 } x ++ l)->R (.returned (.int .i64 1)) w'):=fun w' h2=>hR.out _ _ ⟨rfl,x,⟨by rw [hon];symm;exact aAs (c:={ c with ph:=4,mv:=0 }) (show (4:Nat)≠1 by decide) (show (4:Nat)≠2 by decide),fun _=>hm0,fun _ e=>absurd e (by show ¬ (4:Nat)<=3;decide),aDg⟩,h2⟩;clear hf hx h hp hs hfr hR hcs hv hon hm0 aDg;replace x8:w.cell? ⟨b,8,none⟩=some (.slice sa 0 sc):=x8;generalize c.ph=ph at*;go_in;go_wp2_with fail;exact HR.out _ F1.out
theorem aJb (w:World) (hf:Fam w0 w (G5 b c x ++ l)) (h:Int):Calls prog 224 #[.pointer (some ⟨x.q,0,none⟩),.int .i64 h] w (fun e w'=>e=.returned (.int .i64 (c.m.M.release h).1)/\Fam w0 w' (G5 b (c.oH (c.m.put (c.m.M.release h).2)) x ++ l)):=
 hf.aCA 0 rfl (M':=(c.m.M.release h).2) (fun hk=>hk.release h) (fun L X hr hk=>aCB w hr hk h)
theorem aGG (w:World) (hf:Fam w0 w (G5 b c x ++ l)) (hx:x.ok c) (h:c.Okc) (hp:c.ph=3) {y:Int} {r:List Int} (hs:c.sw=y :: r):Calls prog 179 #[.pointer (some ⟨b,0,none⟩)] w (oG w0 l b c.free):=by
 refine aF fun R hR=>?_;have hfr:c.free=(1+((c.m.M.blocks y).1.length:Int),{ c with sw:=r,m:=c.m.put (c.m.M.release y).2 }):=by unfold Co.free;rw [hs]
 rw [hfr] at hR;obtain ⟨sa,sc,hv⟩:=(G5.sw hf).len;obtain ⟨hk,L,X,hpr⟩:=G5.gh hf;have cb:=yH w hpr hk y;have hbr:=jE hk y;have hsl:=h.uH;rw [hs] at hv hsl;obtain ⟨n,hn⟩:∃ n,n=r.length:=⟨_,rfl⟩;have HN:=aA hn;replace hv:x.sv=.slice sa (n+1) sc:=by rw [hv,hn];rfl
 replace hsl:n+1<=192:=by rw [hn];exact hsl
 obtain ⟨vb,vo,hsa,x0,x8,xe⟩:=G5.s3 hf hv (k:=0) (by rw [hs];simp);rw [hs] at xe;replace xe:w.cell? ⟨vb,vo,none⟩=some (.int .i64 y):=xe;subst hsa;have HSW:Hid (c.sw=y :: r):=hs;have HSV:Hid (x.sv=.slice (some ⟨vb,vo,none⟩) (n+1) sc):=hv;have hcap:n+1<=sc:=by
  have hi:=G5.sw hf;rw [hv] at hi;rcases hi.form with ⟨h1,h2⟩|⟨g,cap,h1,_,_,h4,_⟩
  ·cases h1
  simp only [Value.slice.injEq] at h1;omega
 have F0:=aA hf;have HX:=aA hx;have HR:Hid (∀ w' v,Fam w0 w' (G5 b { c with sw:=r,m:=c.m.put (c.m.M.release y).2 } { x with sv:=v } ++ l)->R (.returned (.int .i64 (1+((c.m.M.blocks y).1.length:Int)))) w'):=fun w' v h2=>hR.out _ _ ⟨rfl,{ x with sv:=v },⟨HX.out.on,HX.out.mv,HX.out.m0,HX.out.mv2⟩,h2⟩;clear hf hx h hp hs hfr hR hv hk hpr hn HX;generalize hbl:(c.m.M.blocks y).1=bl at*;have HBL:=aA hbl;clear hbl;obtain ⟨bn,hbn⟩:∃ n,n=bl.length:=⟨_,rfl⟩;have HBN:=aA hbn;rw [<-hbn] at HR hbr;clear hbn;go_in;go_wp2_with fail;refine cb.mono ?_;rintro e w1 ⟨v1,rfl,hi1,ho1⟩;have F1:=aA (F0.out.aN ho1);obtain ⟨va1,vc1,hv1⟩:=hi1.len;rw [HBL.out,<-HBN.out] at hv1;subst hv1;have y0:=(aY.cells F1.out).1;have cr:=aJb w1 F1.out y;clear cb hi1 ho1 x0 x8 xe F0;generalize (c.m.M.release y).1=re at*;go_wp2_with fail;refine cr.mono ?_;rintro e w2 ⟨rfl,hf2⟩;have F2:Hid (Fam w0 w2 (G5 b { c with m:=c.m.put (c.m.M.release y).2 } x ++ l)):=hf2;have hcs:=aY.cells F2.out;have y8:=hcs.2.2.2.2.2.2.2.2.1;have y8f:=hcs.2.2.2.2.2.2.2.2.2 8;rw [HSV.out] at y8;have hrd:Hid (∀ j u,r[j]?=some u->w2.cell? ⟨vb,vo+1+j,none⟩=some (.int .i64 u)):=fun j u hu=>by
  have hj:j<r.length:=(List.getElem?_eq_some_iff.1 hu).1;have aRs:({ c with m:=c.m.put (c.m.M.release y).2 }:Co).sw=y :: r:=HSW.out;obtain ⟨_,_,h3⟩:=G5.s3b F2.out HSV.out (k:=j+1) (by rw [aRs];simp;omega);rw [aRs] at h3;rw [show vo+1+j=vo+(j+1) by omega,h3];simp [gI,hu]
 clear cr hf2 y0 F1 hcs;go_upto_region 7 with fail;go_wp2_with (at_builtin;refine nG rfl _ _ rfl w2.heap.size _ [] rfl (aO.nil _ _) _ _ _ r rfl ?c0 ?c1 ?c2 ?c3 ?c4 ?c5)
 case c1=>exact HN.out.symm
 case c2.inl=>
  intro j u hu;have hj:j<r.length:=(List.getElem?_eq_some_iff.1 hu).1;have:=HN.out;omega
 case c2.inr=>exact fun j u hu=>hrd.out j u hu
 case c3=>simp;omega
 case c4=>exact Nat.le_refl _
 case c5.inl=>
  intro v' w3 hi3 ho3 _;replace ho3:Only [] w2 w3:=ho3;have F4:=aA (G5.aFB F2.out ho3 hi3);obtain ⟨va3,vc3,hv3⟩:=hi3.len;subst hv3;obtain ⟨n3,hn3⟩:∃ n3,n3=r.length:=⟨_,rfl⟩;rw [<-hn3] at F4 ⊢;have z8:=(aY.cells (F2.out.aN ho3)).2.2.2.2.2.2.2.2.1;have z8f:=(aY.cells (F2.out.aN ho3)).2.2.2.2.2.2.2.2.2 8;clear hi3 ho3 y8 y8f F2 hrd hn3;go_wp2_with fail;exact HR.out _ _ F4.out
 case c5.inr=>
  intro v' w3 hi3 ho3 _;replace ho3:Only [] w2 w3:=ho3;have F4:=aA (G5.aFB F2.out ho3 hi3);obtain ⟨va3,vc3,hv3⟩:=hi3.len;subst hv3;obtain ⟨n3,hn3⟩:∃ n3,n3=r.length:=⟨_,rfl⟩;rw [<-hn3] at F4 ⊢;have z8:=(aY.cells (F2.out.aN ho3)).2.2.2.2.2.2.2.2.1;have z8f:=(aY.cells (F2.out.aN ho3)).2.2.2.2.2.2.2.2.2 8;clear hi3 ho3 y8 y8f F2 hrd hn3;go_wp2_with fail;exact HR.out _ _ F4.out
theorem aJe (w:World) (hf:Fam w0 w (G5 b c x ++ l)) (hx:x.ok c) (h:c.Okc) (hp:c.ph=3):Calls prog 179 #[.pointer (some ⟨b,0,none⟩)] w (oG w0 l b c.free):=by
 cases hs:c.sw with
 | nil=>exact aJd w hf hx h hp hs
 | cons y r=>exact aGG w hf hx h hp hs
theorem aLo (w:World) (hf:Fam w0 w (G5 b c x ++ l)):Calls prog 228 #[.pointer (some ⟨x.q,0,none⟩)] w (fun e w'=>e=.returned (.tuple #[.int .i64 c.m.M.move.1,.int .i64 c.m.M.move.2.1])/\Fam w0 w' (G5 b (c.oH (c.m.put c.m.M.move.2.2)) x ++ l)):=
 hf.aCA 0 rfl (M':=c.m.M.move.2.2) (fun hk=>hk.move) (fun L X hr hk=>aIY w hr hk)
theorem aOO (w:World) (hf:Fam w0 w (G5 b c x ++ l)) (hx:x.ok c) (h:c.Okc) (hp:c.ph=4) (hno:c.mv=8*c.pages\/c.m.M.P.move.2.2.1≠0):Calls prog 180 #[.pointer (some ⟨b,0,none⟩)] w (oG w0 l b c.move):=by
 refine aF fun R hR=>?_;have hmv:c.move=(1,{ c with ph:=0,cr:=0 }):=by unfold Co.move;rw [if_pos hno]
 rw [hmv] at hR;obtain ⟨hk,L,X,hpr⟩:=G5.gh hf;have cp:=aCC w hpr;have HP:=aA hk.p;have F0:=aA hf;have x0:=(aY.cells hf).1;have hon:x.on=false:=hx.on.trans (aAs (by omega) (by omega));have aNg:=hx.mv hp;have aDg:=hx.mv2;have hpg:=h.pg;have HR:Hid (∀ w',Fam w0 w' (G5 b { c with ph:=0,cr:=0 } x ++ l)->R (.returned (.int .i64 1)) w'):=fun w' h2=>hR.out _ _ ⟨rfl,x,⟨by rw [hon];symm;exact aAs (c:={ c with ph:=0,cr:=0 }) (show (0:Nat)≠1 by decide) (show (0:Nat)≠2 by decide),fun e=>by (cases e),fun e=>by (cases e),aDg⟩,h2⟩;have HNO:Hid (c.mv=8*c.pages\/c.m.M.P.move.2.2.1≠0):=hno;have HMX:=aA aNg;clear hf hx h hp hk hpr hR hmv hon hno aNg;go_in;go_wp2_with fail;refine cp.mono ?_;rintro e w1 ⟨q,k,cc,ll,rfl,hq,ho1,_,_,_,_⟩;have c2:=mJ w1 q k cc ll _ hq;have HO1:=aA ho1;clear cp ho1 hq;go_wp2_with fail;refine c2.mono ?_;rintro e w2 ⟨q2,k2,cc2,ll2,rfl,hq2,ho2,g1,g2,g3,g4⟩;have c3:=wJ w2 q2 k2 cc2 ll2 _ hq2 HP.out;have HO2:=aA ho2;clear c2 ho2 hq2;generalize hPM:c.m.M.P.move=pm at*;obtain ⟨m1,m2,m3,m4⟩:=pm;go_wp2_with fail;refine c3.mono ?_;rintro e w3 ⟨rfl,_,ho3⟩;have F3:Hid (Fam w0 w3 (G5 b c x ++ l)):=F0.out.aN (HO1.out.trans (HO2.out.trans ho3 (fun y hy=>by
  right;simp only [List.mem_cons,List.not_mem_nil,or_false] at hy;rcases hy with rfl|rfl|rfl<;>assumption)) (by simp))
 have hcs:=aY.cells F3.out;have y6:=hcs.2.2.2.2.2.2.1;have y7:=hcs.2.2.2.2.2.2.2.1;clear c3 ho3 hcs HO1 HO2 F0 x0;have gU:Hid (∀ wx,Fam w0 wx (G5 b c x ++ l)->wx.frozen? ⟨b,3,none⟩=false/\(∃ v,wx.cell? ⟨b,3,none⟩=some v)/\(wx.setCell ⟨b,3,none⟩ (.int .i64 0)).frozen? ⟨b,4,none⟩=false/\(∃ v,(wx.setCell ⟨b,3,none⟩ (.int .i64 0)).cell? ⟨b,4,none⟩=some v)/\Fam w0 ((wx.setCell ⟨b,3,none⟩ (.int .i64 0)).setCell ⟨b,4,none⟩ (.int .i64 0)) (G5 b { c with ph:=0,cr:=0 } x ++ l)):=fun wx hwx=>by
  have F4:Fam w0 (wx.setCell ⟨b,3,none⟩ (.int .i64 0)) (G5 b { c with ph:=0 } x ++ l):=G5.rX hwx 0;have hcs:=aY.cells hwx;have aRC:=aY.cells F4;exact ⟨hcs.2.2.2.2.2.2.2.2.2 3,⟨_,hcs.2.2.2.1⟩,aRC.2.2.2.2.2.2.2.2.2 4,⟨_,aRC.2.2.2.2.1⟩,G5.aDu F4 0⟩
 by_cases he:m3=0
 ·have hmp:c.mv=8*c.pages:=by
   rcases HNO.out with h1|h1
   ·exact h1
   exact absurd he h1
  have hmx:=HMX.out;rw [hmx,hmp] at y7;clear HNO HMX hPM hmx hmp;subst he;obtain ⟨a8,ha8⟩:∃ a8:Int,a8=8*(c.pages:Int):=⟨_,rfl⟩;have hw8:IntKind.i64.wrap (8*(c.pages:Int))=a8:=by rw [<-ha8];exact IntWalk.i64_in (by omega) (by omega)
  replace y7:w3.cell? ⟨b,7,none⟩=some (.int .i64 a8):=by rw [ha8];exact y7
  clear ha8;generalize (c.pages:Int)=pg at*;go_upto_region 4 with fail;go_quiet (fail);obtain ⟨e1,⟨_,e2⟩,e3,⟨_,e4⟩,F5⟩:=gU.out _ (F3.out.drewN nq);have F6:=aA F5;generalize w3.drewN nq=w4 at*;clear F3 gU F5 y6 y7 hw8;go_wp2_with fail;exact HR.out _ F6.out
 have heb:(m3 != 0)=true:=by simpa using he
 clear HNO HMX hPM he;go_upto_region 4 with fail;go_quiet (fail);obtain ⟨e1,⟨_,e2⟩,e3,⟨_,e4⟩,F5⟩:=gU.out _ (F3.out.drewN nq);have F6:=aA F5;generalize w3.drewN nq=w4 at*;clear F3 gU F5 y6 y7;go_wp2_with fail;exact HR.out _ F6.out
theorem aNp (w:World) (hf:Fam w0 w (G5 b c x ++ l)) (hx:x.ok c) (h:c.Okc) (hp:c.ph=4) (hno:¬ (c.mv=8*c.pages\/c.m.M.P.move.2.2.1≠0)):Calls prog 180 #[.pointer (some ⟨b,0,none⟩)] w (oG w0 l b c.move):=by
 refine aF fun R hR=>?_;have hmv:c.move=(4+(bsz (c.m.M.P.class (c.m.M.P.move.1.tdiv 16)).1:Int),{ c with m:=c.m.put c.m.M.move.2.2,mv:=c.mv+1 }):=by unfold Co.move;rw [if_neg hno]
 rw [hmv] at hR;obtain ⟨hk,L,X,hpr⟩:=G5.gh hf;have cp:=aCC w hpr;have HP:=aA hk.p;have F0:=aA hf;have x0:=(aY.cells hf).1;have aNg:=hx.mv hp;have hpg:=h.pg;have aSy:=h.mv;have hne:c.mv≠8*c.pages:=fun e=>hno (.inl e);have he:c.m.M.P.move.2.2.1=0:=Classical.not_not.1 (fun e=>hno (.inr e));have hrg:=nT hk.p he;have aNW:(c.m.M.P.class (c.m.M.P.move.1.tdiv 16)).1<=2:=aBm hk.p _;have aQr:=hk.n24;obtain ⟨y,o,ho,hpl,_,_,_,_⟩:=h.hf.aCj he;have aOM:0<=(c.m.M.P.class (c.m.M.P.move.1.tdiv 16)).1:=by
  have hb:=h.hf.ok.bk y o ho _ hpl;have hc:=h.hf.ok.isC ho (m:=o.place c.m.M.P.move.1) hpl;rw [Th.nO hpl] at hb;obtain ⟨i,k,e1,hh⟩:=hb;have hblk:=hc.blk hh.kb;have hs:=hc.sz;have hhi:=hh.hi;rw [e1,show (((16*i+k*bsz (gI (aT o.slots.length) (o.place c.m.M.P.move.1)):Nat):Int)).tdiv 16=(i:Int) by rw [Int.tdiv_eq_ediv_of_nonneg (by omega)];omega];unfold Pl.class;rw [if_neg (by omega),Int.toNat_natCast,hh.cls];rcases hc with e|e|e<;>omega
 have HR:Hid (∀ w',Fam w0 w' (G5 b { c with m:=c.m.put c.m.M.move.2.2,mv:=c.mv+1 } { x with mv:=c.mv+1 } ++ l)->R (.returned (.int .i64 (4+(bsz (c.m.M.P.class (c.m.M.P.move.1.tdiv 16)).1:Int)))) w'):=fun w' h2=>hR.out _ _ ⟨rfl,{ x with mv:=c.mv+1 },⟨hx.on,fun _=>rfl,fun _ e=>absurd (show c.ph<=3 from e) (by omega),by show c.mv+1<=192;omega⟩,h2⟩;have HMX:=aA aNg;have hml:c.mv<=191:=by omega
 have aPx:c.mv<8*c.pages:=by omega
 obtain ⟨fr,hfr⟩:∃ f,f=c.m.M.P.move.1:=⟨_,rfl⟩;have HFR:=aA hfr;have hfr0:0<=fr:=by rw [hfr];exact hrg.2.1
 have aTF:fr<384:=by rw [hfr];have:=hrg.2.2.2.1;omega
 obtain ⟨d,hd⟩:∃ d,d=fr.tdiv 16:=⟨_,rfl⟩;have hdr:0<=d/\d<=24:=by rw [hd,Int.tdiv_eq_ediv_of_nonneg hfr0];omega
 rw [<-hfr,<-hd] at HR aOM aNW;have aSo:fr.tdiv 16=d:=hd.symm;obtain ⟨cl,hcl⟩:∃ k,k=(c.m.M.P.class d).1:=⟨_,rfl⟩;have HCL:=aA hcl;rw [<-hcl] at HR aOM aNW;have HE:=aA he;clear hf hx h hp hk hpr hR hmv hno aNg hne he hrg aQr ho hpl hfr hd hcl aSy;go_in;go_wp2_with fail;refine cp.mono ?_;rintro e w1 ⟨q,k,cc,ll,rfl,hq,ho1,_,_,_,_⟩;have c2:=mJ w1 q k cc ll _ hq;have HO1:=aA ho1;have HQ:=aA hq;clear cp ho1 hq;go_wp2_with fail;refine c2.mono ?_;rintro e w2 ⟨q2,k2,cc2,ll2,rfl,hq2,ho2,g1,g2,g3,g4⟩;have c3:=wJ w2 q2 k2 cc2 ll2 _ hq2 HP.out;rw [<-HFR.out,HE.out] at c3;have HO2:=aA ho2;clear c2 ho2 hq2;generalize c.m.M.P.move.2.1=tto at*;go_wp2_with fail;refine c3.mono ?_;rintro e w3 ⟨rfl,_,ho3⟩;have aQq:Only [] w1 w3:=HO2.out.trans ho3 (fun y hy=>by
  right;simp only [List.mem_cons,List.not_mem_nil,or_false] at hy;rcases hy with rfl|rfl|rfl<;>assumption)
 have F3:Hid (Fam w0 w3 (G5 b c x ++ l)):=F0.out.aN (HO1.out.trans aQq (by simp));have HQ3:Hid (eF w3 q k cc ll c.m.M.P):=HQ.out.only aQq (by simp) (by simp) (by simp) (by simp);have hcs:=aY.cells F3.out;have y6:=hcs.2.2.2.2.2.2.1;have y7:=hcs.2.2.2.2.2.2.2.1;rw [HMX.out] at y7;clear c3 ho3 aQq hcs HO1 HO2 F0 x0 HQ;obtain ⟨a8,ha8⟩:∃ a8:Int,a8=8*(c.pages:Int):=⟨_,rfl⟩;have hw8:IntKind.i64.wrap (8*(c.pages:Int))=a8:=by rw [<-ha8];exact IntWalk.i64_in (by omega) (by omega)
 have hneb:((c.mv:Int) == a8)=false:=by rw [ha8];simp;omega
 clear ha8 aPx hpg;generalize (c.pages:Int)=pg at*;generalize aSx:c.mv=mv at*;go_upto_region 4 with fail;go_quiet (fail);have F4:=aA (F3.out.drewN nq);have cc1:=aFM (w3.drewN nq) q k cc ll _ (HQ3.out.only ((Only.refl [] _).drewN nq) (by simp) (by simp) (by simp) (by simp)) d;rw [<-HCL.out] at cc1;generalize (c.m.M.P.class d).2=ce at*;have cg:=aLo (w3.drewN nq) F4.out;have z0:=(aY.cells F4.out).1;generalize w3.drewN nq=w4 at*;clear F3 HQ3 y6 y7 hw8 hneb;go_wp2_with fail;refine cc1.mono ?_;rintro e _ ⟨rfl,rfl⟩;clear cc1;generalize c.m.M.move.1=r1 at*;generalize c.m.M.move.2.1=r2 at*;go_wp2_with fail;refine cg.mono ?_;rintro e w5 ⟨rfl,hf5⟩;have F5:Hid (Fam w0 w5 (G5 b { c with m:=c.m.put c.m.M.move.2.2 } x ++ l)):=hf5;have hcs:=aY.cells F5.out;have y7:=hcs.2.2.2.2.2.2.2.1;have y7f:=hcs.2.2.2.2.2.2.2.2.2 7;rw [HMX.out] at y7;have F6:Hid (Fam w0 (w5.setCell ⟨b,7,none⟩ (.int .i64 ((mv+1:Nat):Int))) (G5 b { c with m:=c.m.put c.m.M.move.2.2,mv:=mv+1 } { x with mv:=mv+1 } ++ l)):=G5.aKz F5.out (mv+1);have hc3:IsC cl:=by unfold IsC;omega
 have hsz:=hc3.sz;clear cg hf5 hcs F4 z0;go_upto_region 11 with fail;have hcast:((mv:Int)+1)=((mv+1:Nat):Int):=by omega
 rw [hcast];generalize w5.setCell ⟨b,7,none⟩ (.int .i64 ((mv+1:Nat):Int))=w6 at*;clear y7 y7f F5 hcast;have cu:=yO w6 cl hc3;clear hc3;generalize bsz cl=sz at*;go_wp2_with fail;refine cu.mono ?_;rintro e _ ⟨rfl,rfl⟩;clear cu;go_wp2_with fail;exact HR.out _ F6.out
theorem aNq (w:World) (hf:Fam w0 w (G5 b c x ++ l)) (hx:x.ok c) (h:c.Okc) (hp:c.ph=4):Calls prog 180 #[.pointer (some ⟨b,0,none⟩)] w (oG w0 l b c.move):=by
 by_cases hno:c.mv=8*c.pages\/c.m.M.P.move.2.2.1≠0
 ·exact aOO w hf hx h hp hno
 exact aNp w hf hx h hp hno
end
end Go.Proofs.YthflghdaejbdkaaGreat
