/- Lemmas of this claim. -/
import Derived.Test.YthflghdaejbdkaaGreatXdCyZD
import Derived.Test.YthflghdaejbdkaaGreatXdTbModel
import Derived.Test.YthflghdaejbdkaaGreatXdCyGI
namespace Go.Proofs.YthflghdaejbdkaaGreat
open _root_.Go.Proofs.Tryz (prog)
open Go.RowKit Go.Maps
set_option maxHeartbeats 6400000
set_option maxRecDepth 100000
set_option linter.unusedVariables false
theorem aJa {c:Co} (hp:c.ph=0) (n:Int):c.give n=(0,c):=by unfold Co.give;rw [if_pos hp]
theorem iQ {c:Co} (hp:c.ph=0):c.aH 0 []=((c.m.M.aH 0 []).1,(c.m.M.aH 0 []).2.1,{ c with m:=c.m.put (c.m.M.aH 0 []).2.2 }):=by
 unfold Co.aH;rw [if_neg (by simp),aJa hp];show c.newObj 0 []=_;unfold Co.newObj;rw [if_neg (by rw [dD];omega)]
theorem aHX {c:Co} (hm:c.m=Mk.start aNQ) (ht:c.t=Tb.new) (hp:c.ph=0) (hr:c.rate=0) (hg:c.pages=2) (hs:c.sw=[]):c.begin [1]=(0,aDe):=by
 have hbad:¬ aNQ.fG [1]:=by
  rintro ⟨y,hy,_,h⟩;have hy1:y=1:=by simpa using hy
  have:=aOm;rw [<-hy1,h] at this
  cases this
 unfold Co.begin;rw [if_neg (by simp),if_neg (fun e=>e hp),hm,if_neg (show ¬ (Mk.start aNQ).M.fG [1] from hbad)];obtain ⟨m,t,ph,cr,rate,pages,sw,mv⟩:=c
 cases hm
 cases ht
 cases hr
 cases hg
 cases hs
 rfl
theorem aFD (h:aDe.Okc):aDe.finish=((6:Int),Co.costs 6 aDe,0,Co.steps 6 aDe):=by
 have h6:=Co.aEe h qB.2.1 qB.1;unfold Co.finish;rw [if_neg (by show ¬ (1:Nat)=0;decide),<-h6];rfl
theorem aCU (w:World):Calls prog 32 #[] w (fun e w'=>e=.returned (.bool true)/\Only [] w w'):=by
 refine aF fun R hR=>?_;have c1:=aCW w (Fam.nil w) 2 0 (by omega) (by omega) ⟨Int.le_refl 0,by decide⟩;have K0:Hid ((Co.new 2 0).Ok):=Co.Ok.new (by omega) (by omega) ⟨Int.le_refl 0,by decide⟩;go_in;go_wp2_with fail;refine c1.mono ?_;rintro e w1 ⟨b,rfl,hf1⟩;have F1:Hid (Fam w w1 [CoA b (Co.new 2 0)]):=hf1;have c2:=kM w1 F1.out (i:=0) rfl K0.out 0 none 0 0 [] rfl (by omega) (fun wx _=>.inl ⟨rfl,rfl⟩);have K1:=aA (K0.out.aH 0 []);obtain ⟨d,hd⟩:∃ d,d=((Co.new 2 0).aH 0 []).2.2:=⟨_,rfl⟩;have HD:Hid (d={ Co.new 2 0 with m:=(Co.new 2 0).m.put ((Hp.new 2).aH 0 []).2.2 }):=by show _=_;rw [hd,iQ rfl];rfl
 rw [<-hd] at c2 K1;rw [show ((Co.new 2 0).aH 0 []).1=1 by rw [iQ rfl];exact aBv.1] at c2;clear c1 hf1 hd;generalize ((Co.new 2 0).aH 0 []).2.1=e1 at*;go_wp2_with fail;refine c2.mono ?_;rintro e w2 ⟨rfl,hf2⟩;have F2:Hid (Fam w w2 [CoA b d]):=hf2;have hdp:d.ph=0:=by rw [HD.out];rfl
 have hdM:d.m.M=((Hp.new 2).aH 0 []).2.2:=by rw [HD.out];rfl
 have c3:=kM w2 F2.out (i:=0) rfl K1.out 0 none 0 0 [] rfl (by omega) (fun wx _=>.inl ⟨rfl,rfl⟩);have K2:=aA (K1.out.aH 0 []);obtain ⟨d2,hd2⟩:∃ d2,d2=(d.aH 0 []).2.2:=⟨_,rfl⟩;have HD2:Hid (d2={ d with m:=d.m.put (d.m.M.aH 0 []).2.2 }):=by show _=_;rw [hd2,iQ hdp]
 rw [<-hd2] at c3 K2;rw [show (d.aH 0 []).1=2 by rw [iQ hdp,hdM];exact aBv.2.2.1] at c3;have HB:Hid (d2.begin [1]=(0,aDe)):=by
  have hm:d2.m=Mk.start aNQ:=by rw [HD2.out];show d.m.put _=_;rw [hdM,HD.out];rfl
  refine aHX hm ?_ ?_ ?_ ?_ ?_<;>(rw [HD2.out,HD.out];rfl)
 clear c2 hf2 hd2 hdp hdM F1;generalize (d.aH 0 []).2.1=e2 at*;go_wp2_with fail;refine c3.mono ?_;rintro e w3 ⟨rfl,hf3⟩;have F3:Hid (Fam w w3 [CoA b d2]):=hf3;have F4:Hid (Fam w (w3.alloc (.cells #[.int .i64 1] 3)) [CoA b d2,dZ w3.heap.size 3 [.int .i64 1]]):=F3.out.addRow 3 [.int .i64 1];clear c3 hf3 F2;have c4:=aAr _ F4.out (i:=0) rfl K2.out.k (some ⟨w3.heap.size,0,none⟩) 1 1 [1] rfl (by omega) (fun y hy=>by simp at hy;rw [hy];exact dI (by decide)) (fun wx hx=>.inl ⟨w3.heap.size,0,1,rfl,fun k hk=>by
  have h0:k=0:=by simp at hk;omega
  subst h0;exact (hx.row 1 rfl).cell 0 rfl⟩)
 rw [HB.out] at c4;have K3:Hid (aDe.Ok):=by have:=K2.out.begin [1];rw [HB.out] at this;exact this
 go_wp2_with fail;refine c4.mono ?_;rintro e w5 ⟨rfl,hf5⟩;have F5:Hid (Fam w w5 [CoA b aDe,dZ w3.heap.size 3 [.int .i64 1]]):=hf5;have c5:=yS w5 F5.out (i:=0) rfl K3.out.k;rw [aFD K3.out.k] at c5;have hcl:=Co.aBh K3.out.k 6;clear c4 hf5 F4 F3;generalize Co.costs 6 aDe=cs at*;go_wp2_with fail;refine c5.mono ?_;rintro e w6 ⟨rfl,hf6⟩;have F6:Hid (Fam w w6 [CoA b (Co.steps 6 aDe),dZ w3.heap.size 3 [.int .i64 1]]):=hf6;have HP6:Hid ((Co.steps 6 aDe).ph=0):=qB.1;have HH6:Hid ((Co.steps 6 aDe).m.M.handles=[1]):=qB.2.2;generalize Co.steps 6 aDe=d6 at*;have c6:=aCX w6 F6.out (i:=0) rfl;clear c5 hf6 F5;go_wp2_with fail;refine c6.mono ?_;rintro e w7 ⟨q,rfl,ho7,hf7⟩;have F7:Hid (Fam w w7 [CoA b d6,dZ w3.heap.size 3 [.int .i64 1],PH q d6.m.M]):=hf7;obtain ⟨hk7,L7,X7,hp7⟩:=F7.out.ph 2 rfl;have c7:=oV w7 hp7 hk7;rw [HH6.out] at c7;clear c6 hf7 ho7 F6 hk7 hp7;go_wp2_with fail;refine c7.mono ?_;rintro e w8 ⟨v8,rfl,hi8,ho8⟩;have F8:=aA (F7.out.aN ho8);obtain ⟨va,vc,hv8⟩:=hi8.len;subst hv8;obtain ⟨vb,vo,rfl,h8⟩:=hi8.read.at (k:=0) (by simp);replace h8:w8.cell? ⟨vb,vo,none⟩=some (.int .i64 1):=by rw [Nat.add_zero] at h8;exact h8
 have c8:=yP w8 F8.out (i:=0) rfl;rw [HP6.out] at c8;clear c7 hi8 ho8 F7;go_wp2_with fail;refine c8.mono ?_;rintro e _ ⟨rfl,rfl⟩;have HE:=aA F8.out.only;clear c8 F8;go_wp2_with fail;exact hR.out _ _ ⟨rfl,HE.out⟩
section
variable {w0 w:World} {l:List Asn} {b:Nat} {c c':Co} {x:GX5} {i:Nat}
theorem GoA.wrap {f:FuncId} {args:Array Value} {r:Value} (hf:Fam w0 w l) (hi:l[i]?=some (GoA b c)) (hc:∀ x:GX5,x.ok c->Fam w0 w (G5 b c x ++ l.set i NoA)->Calls prog f args w (fun e w'=>e=.returned r/\∃ x':GX5,x'.ok c'/\Fam w0 w' (G5 b c' x' ++ l.set i NoA))) :
  Calls prog f args w (fun e w'=>e=.returned r/\Fam w0 w' (l.set i (GoA b c'))):=by
 obtain ⟨x,hx,hf2⟩:=GoA.open hf hi;exact (hc x hx hf2).mono fun e w' ⟨he,x',hx',hf'⟩=>⟨he,GoA.close hx' hf' (List.getElem?_eq_some_iff.1 hi).1⟩
theorem GoA.back (hf:Fam w0 w (G5 b c x ++ l.set i NoA)) (hx:x.ok c) (hi:l[i]?=some (GoA b c)):Fam w0 w l:=by
 have:=GoA.close hx hf (List.getElem?_eq_some_iff.1 hi).1;rwa [lX hi] at this
theorem aIe (w:World) (hf:Fam w0 w l) (hi:l[i]?=some (GoA b c)) (h:c.Okc):Calls prog 95 #[.pointer (some ⟨b,0,none⟩)] w (fun e w'=>e=.returned (.tuple #[.int .i64 (c.step).1,.int .i64 (c.step).2.1])/\Fam w0 w' (l.set i (GoA b (c.step.2.2)))):=
 GoA.wrap hf hi fun x hx hf2=>nX w hf2 hx h
theorem aDG (w:World) (hf:Fam w0 w l) (hi:l[i]?=some (GoA b c)) (h:c.Okc):Calls prog 97 #[.pointer (some ⟨b,0,none⟩)] w (fun e w'=>e=.returned (.tuple #[.int .i64 c.finish.1,.int .i64 c.finish.2.1,.int .i64 c.finish.2.2.1])/\Fam w0 w' (l.set i (GoA b (c.finish.2.2.2)))):=
 GoA.wrap hf hi fun x hx hf2=>aDZ w hf2 hx h
theorem aFT (w:World) (hf:Fam w0 w l) (hi:l[i]?=some (GoA b c)) (h:c.Ok) (n:Int):Calls prog 96 #[.pointer (some ⟨b,0,none⟩),.int .i64 n] w (fun e w'=>e=.returned (.tuple #[.int .i64 (c.jF n).1,.int .i64 (c.jF n).2.1])/\Fam w0 w' (l.set i (GoA b ((c.jF n).2.2)))):=
 GoA.wrap hf hi fun x hx hf2=>aGF w hf2 hx h n
theorem zF (w:World) (hf:Fam w0 w l) (hi:l[i]?=some (GoA b c)) (h:c.Ok) (k:Int) (va:Option Addr) (n vc:Nat) (bl:List Bool) (hn:bl.length=n) (hl:n<=1000000) (hv:∀ wx,Fam w0 wx (l.set i NoA)->aAx wx (.slice va n vc) bl):Calls prog 92 #[.pointer (some ⟨b,0,none⟩),.int .i64 k,.slice va n vc] w (fun e w'=>e=.returned (.tuple #[.int .i64 (c.aH k bl).1,.int .i64 (c.aH k bl).2.1])/\Fam w0 w' (l.set i (GoA b ((c.aH k bl).2.2)))):=
 GoA.wrap hf hi fun x hx hf2=>yD w hf2 hx h k va n vc bl hn hl (fun wx _ _ h=>hv wx (Fam.rest h))
theorem aAL (w:World) (hf:Fam w0 w l) (hi:l[i]?=some (GoA b c)) (h:c.Ok) (k a n:Int):Calls prog 93 #[.pointer (some ⟨b,0,none⟩),.int .i64 k,.int .i64 a,.int .i64 n] w (fun e w'=>e=.returned (.tuple #[.int .i64 (c.aG k a n).1,.int .i64 (c.aG k a n).2.1])/\Fam w0 w' (l.set i (GoA b ((c.aG k a n).2.2)))):=
 GoA.wrap hf hi fun x hx hf2=>zL w hf2 hx h k a n
theorem aFR (w:World) (hf:Fam w0 w l) (hi:l[i]?=some (GoA b c)) (h:c.Okc) (y s v:Int):Calls prog 94 #[.pointer (some ⟨b,0,none⟩),.int .i64 y,.int .i64 s,.int .i64 v] w (fun e w'=>e=.returned (.int .i64 (c.store y s v).1)/\Fam w0 w' (l.set i (GoA b ((c.store y s v).2)))):=
 GoA.wrap hf hi fun x hx hf2=>aGw w hf2 hx h y s v
theorem aFS (w:World) (hf:Fam w0 w l) (hi:l[i]?=some (GoA b c)) (h:c.Okc) (k y g:Int):Calls prog 100 #[.pointer (some ⟨b,0,none⟩),.int .i64 k,.int .i64 y,.int .i64 g] w (fun e w'=>e=.returned (.tuple #[.int .i64 (c.refer k y g).1,.int .i64 (c.refer k y g).2.1])/\Fam w0 w' (l.set i (GoA b ((c.refer k y g).2.2)))):=
 GoA.wrap hf hi fun x hx hf2=>aGy w hf2 hx h k y g
theorem aDF (w:World) (hf:Fam w0 w l) (hi:l[i]?=some (GoA b c)) (h:c.Okc) (y:Int):Calls prog 101 #[.pointer (some ⟨b,0,none⟩),.int .i64 y] w (fun e w'=>e=.returned (.tuple #[.int .i64 (c.target y).1,.int .i64 (c.target y).2.1])/\Fam w0 w' (l.set i (GoA b ((c.target y).2.2)))):=
 GoA.wrap hf hi fun x hx hf2=>aDV w hf2 hx h y
theorem aId (w:World) (hf:Fam w0 w l) (hi:l[i]?=some (GoA b c)) (h:c.Okc):Calls prog 102 #[.pointer (some ⟨b,0,none⟩)] w (fun e w'=>e=.returned (.tuple #[.int .i64 (c.take).1,.int .i64 (c.take).2.1])/\Fam w0 w' (l.set i (GoA b (c.take.2.2)))):=
 GoA.wrap hf hi fun x hx hf2=>aGv w hf2 hx h
theorem aFU (w:World) (hf:Fam w0 w l) (hi:l[i]?=some (GoA b c)) (h:c.Okc) (a:Option Addr) (n cp:Nat) (roots:List Int) (hl:roots.length=n) (hn:n<=1000000) (hr:∀ wx,Fam w0 wx (l.set i NoA)->nI wx (.slice a n cp) roots):Calls prog 98 #[.pointer (some ⟨b,0,none⟩),.slice a n cp] w (fun e w'=>e=.returned (.int .i64 (c.begin roots).1)/\Fam w0 w' (l.set i (GoA b ((c.begin roots).2)))):=
 GoA.wrap hf hi fun x hx hf2=>aEc w hf2 hx h a n cp roots hl hn hr
theorem aKH (w:World) (hf:Fam w0 w l) (hi:l[i]?=some (GoA b c)) (h:c.Okc) (y s:Int):Calls prog 99 #[.pointer (some ⟨b,0,none⟩),.int .i64 y,.int .i64 s] w (fun e w'=>e=.returned (.tuple #[.int .i64 (c.get y s).1,.int .i64 (c.get y s).2])/\Only [] w w'):=by
 obtain ⟨x,hx,hf2⟩:=GoA.open hf hi;exact aJc w hf2 hx h y s
theorem aIf (w:World) (hf:Fam w0 w l) (hi:l[i]?=some (GoA b c)) (h:c.Okc):Calls prog 103 #[.pointer (some ⟨b,0,none⟩)] w (fun e w'=>e=.returned (.tuple #[.int .i64 c.step.1,.int .i64 c.step.2.1])/\Fam w0 w' l):=by
 obtain ⟨x,hx,hf2⟩:=GoA.open hf hi;exact (aCL w hf2 hx h).mono fun e w' ⟨he,hf'⟩=>⟨he,GoA.back hf' hx hi⟩
theorem aIg (w:World) (hf:Fam w0 w l) (hi:l[i]?=some (GoA b c)) (h:c.Okc):Calls prog 40 #[.pointer (some ⟨b,0,none⟩)] w (fun e w'=>∃ b2,e=.returned (.pointer (some ⟨b2,0,none⟩))/\Fam w0 w' (l ++ [GoA b2 c])):=by
 obtain ⟨x,hx,hf2⟩:=GoA.open hf hi;have hil:=(List.getElem?_eq_some_iff.1 hi).1;refine (aAi w hf2 hx h).mono fun e w' ⟨b2,he,x2,hx2,hf'⟩=>⟨b2,he,?_⟩;have h1:=GoA.born hx2 hf';have h2:Fam w0 w' (G5 b c x ++ (l ++ [GoA b2 c]).set i NoA):=by
  rw [List.set_append_left _ _ hil,<-List.append_assoc];exact h1
 have h3:=GoA.close hx h2 (by simp;omega);rw [List.set_append_left _ _ hil,lX hi] at h3;exact h3
end
def aNY (c:Int) (i:Nat):Bool:=bits BinOp.and IntKind.i64 (c / 2 ^ i) 1 == 1
def aHn (b:Int):Nat:=min b.toNat 9
def zM (c:Int) (k:Nat):List Bool:=(List.range k).map (aNY c)
def cO (b c:Int):List Bool:=zM c (aHn b)
theorem yK (c:Int) (k:Nat):(zM c k).length=k:=by simp [zM]
theorem aGL (c:Int) (k:Nat):zM c (k+1)=zM c k ++ [aNY c k]:=by simp [zM,List.range_succ]
theorem aJz (b:Int):aHn b<=9:=Nat.min_le_right _ _
def qF (c:Int):Nat->List Int
 | 0=>[]
 | k+1=>qF c k ++ if aNY c (k+1)=true then [(k:Int)+1] else []
theorem zX (c:Int) (k:Nat):qF c (k+1)=qF c k ++ if aNY c (k+1)=true then [(k:Int)+1] else []:=rfl
def dW (c:Int):List Int:=qF c 40
theorem wL (c:Int):∀ k,(qF c k).length<=k
 | 0=>Nat.le_refl _
 | k+1=>by
  unfold qF;rw [List.length_append];have:=wL c k;split<;>simp<;>omega
theorem aBT {c:Int} {x:Int}:∀ {k:Nat},x∈qF c k->1<=x/\x<=(k:Int)
 | 0,h=>by cases h
 | k+1,h=>by
  unfold qF at h;rcases List.mem_append.1 h with h|h
  ·have:=aBT h;omega
  split at h
  ·simp at h;omega
  cases h
theorem aGK (w:World) (b c:Int):Calls prog 91 #[.int .i64 b,.int .i64 c] w (fun e w'=>∃ v,e=.returned v/\Bls w' w.heap.size v (cO b c)/\Only [] w w'):=by
 refine aF fun R hR=>?_;go_in;go_wp2_with fail;go_loopw [5,6] (fun vv iv wr=>∃ k:Nat,k<=aHn b/\iv=.int .i64 k/\Bls wr w.heap.size vv (zM c k)/\Only [] w wr) (fun _ iv _=>aHn b - (intOf iv).toNat)
 case atStart=>exact ⟨0,by omega,rfl,Bls.nil _ _,Only.refl _ _⟩
 case round=>
  obtain ⟨k,hk,rfl,hi,ho⟩:=hrel;have HI:=aA hi;have HO:=aA ho;obtain ⟨va,vc,hvv⟩:=hi.len;rw [yK] at hvv;subst hvv;clear hi ho
  by_cases hlt:(k:Int)<b
  ·by_cases hl9:(k:Int)<9
   ·have hk0:(0:Int)<=k:=by omega
    have hkc:k<aHn b:=by unfold aHn;omega
    have HBT:Hid ((bits BinOp.and IntKind.i64 (c / 2 ^ k) 1 == 1)=aNY c k):=rfl;have hk9:k<=9:=Nat.le_trans hk (aJz b);go_wp2_with (at_builtin;refine tX rfl _ _ rfl w.heap.size _ _ rfl (HI.out.alloc _) wr.heap.size (bits BinOp.and IntKind.i64 (c / 2 ^ k) 1 == 1) rfl ?c1 ?c2 ?c3 ?c4)
    case c1=>exact (Row.new wr _ [_]).cell 0 rfl
    case c2=>rw [yK];omega
    case c3=>have:=HO.out.size;simp;omega
    case c4=>
     intro v' w3 hi2 ho2 hb2;have HO4:Hid (Only [] w w3):=by
      exact (HO.out.alloc _).trans ho2 (fun z hz=>.inr (HI.out.own z (jO hz)).1)
     have HI4:Hid (Bls w3 w.heap.size v' (zM c (k+1))):=by
      show Bls _ _ _ _;rw [aGL,<-HBT.out];exact hi2
     clear hi2 ho2 hb2 HBT;go_wp2_with fail;exact ⟨⟨k+1,by omega,by go_num,HI4.out,HO4.out⟩,by simp [intOf];omega⟩
   have hkc:k=aHn b:=by unfold aHn at hk ⊢;omega
   have HE:Hid (Bls wr w.heap.size (.slice va k vc) (cO b c)):=by show Bls _ _ _ (zM c (aHn b));rw [<-hkc];exact HI.out
   clear hkc;go_wp2_with fail;exact hR.out _ _ ⟨_,rfl,HE.out,HO.out⟩
  have hkc:k=aHn b:=by unfold aHn at hk ⊢;omega
  have HE:Hid (Bls wr w.heap.size (.slice va k vc) (cO b c)):=by show Bls _ _ _ (zM c (aHn b));rw [<-hkc];exact HI.out
  clear hkc;go_wp2_with fail;exact hR.out _ _ ⟨_,rfl,HE.out,HO.out⟩
theorem aBN (w:World) (c:Int):Calls prog 57 #[.int .i64 c] w (aMq w (dW c)):=by
 refine aF fun R hR=>?_;go_in;go_wp2_with fail;go_loopw [3,4] (fun vv iv wr=>∃ k:Nat,k<=40/\iv=.int .i64 ((k:Int)+1)/\aO wr w.heap.size vv (qF c k)/\Only [] w wr) (fun _ iv _=>41 - (intOf iv).toNat)
 case atStart=>exact ⟨0,by omega,rfl,aO.nil _ _,Only.refl _ _⟩
 case round=>
  obtain ⟨k,hk,rfl,hi,ho⟩:=hrel;have HI:=aA hi;have HO:=aA ho;obtain ⟨va,vc,hvv⟩:=hi.len;obtain ⟨n,hn⟩:∃ n,n=(qF c k).length:=⟨_,rfl⟩;have hnl:n<=k:=by rw [hn];exact wL c k
  rw [<-hn] at hvv;have HN:=aA hn;subst hvv;clear hi ho hn
  by_cases hlt:k<40
  ·have hlt1:(k:Int)+1<=40:=by omega
   have hk0:(0:Int)<=(k:Int)+1:=by omega
   obtain ⟨k1,hk1⟩:∃ k1:Nat,(k:Int)+1=(k1:Int):=⟨k+1,by omega⟩;have hke:k1=k+1:=by omega
   rw [hk1] at hlt1 hk0;have HK1:=aA hk1;have HKE:=aA hke
   cases hb:aNY c (k+1) with
   | true=>
    have HRB:Hid (qF c (k+1)=qF c k ++ [(k1:Int)]):=by show _=_;rw [<-hk1,zX,if_pos hb]
    have hbt:(bits BinOp.and IntKind.i64 (c / 2 ^ k1) 1 == 1)=true:=by rw [hke];exact hb
    have hbv:(bits BinOp.and IntKind.i64 (c / 2 ^ k1) 1 == 1)=true:=hbt;rw [hk1];clear hb hbt hk1 hke;go_wp2_with (at_builtin;refine bI rfl _ _ rfl w.heap.size _ _ rfl (HI.out.alloc _) wr.heap.size (k1:Int) rfl ?c1 ?c2 ?c3 ?c4)
    case c1=>exact (Row.new wr _ [_]).cell 0 rfl
    case c2=>have:=HN.out;omega
    case c3=>have:=HO.out.size;simp;omega
    case c4=>
     intro v' w3 hi2 ho2 hb2;have HO4:Hid (Only [] w w3):=by
      exact (HO.out.alloc _).trans ho2 (fun z hz=>.inr (HI.out.own z (jO hz)).1)
     have HI4:Hid (aO w3 w.heap.size v' (qF c (k+1))):=by
      show aO _ _ _ _;rw [HRB.out];exact hi2
     clear hi2 ho2 hb2 HRB;go_wp2_with fail;exact ⟨⟨k+1,by omega,by rw [<-HK1.out];go_num,HI4.out,HO4.out⟩,by have:=HKE.out;simp [intOf];omega⟩
   | false=>
    have HI4:Hid (aO wr w.heap.size (.slice va n vc) (qF c (k+1))):=by
     show aO _ _ _ _;rw [zX,if_neg (by rw [hb];decide),List.append_nil];exact HI.out
    have hbt:(bits BinOp.and IntKind.i64 (c / 2 ^ k1) 1 == 1)=false:=by rw [hke];exact hb
    rw [hk1];clear hb hk1 hke;go_wp2_with fail;exact ⟨⟨k+1,by omega,by rw [<-HK1.out];go_num,HI4.out,HO.out⟩,by have:=HKE.out;simp [intOf];omega⟩
  obtain rfl:k=40:=by omega
  have HE:Hid (aO wr w.heap.size (.slice va n vc) (dW c)):=HI.out;clear HI HN;go_wp2_with fail;exact hR.out _ _ ⟨_,rfl,HE.out,HO.out⟩
theorem aAq (w:World) (v1 v2:Value) (l:List Int) (h1:nI w v1 l) (h2:nI w v2 l) (hl:l.length<=1000) :
  Calls prog 61 #[v1,v2] w (fun e w'=>e=.returned (.bool true)/\Only [] w w'):=by
 refine aF fun R hR=>?_;obtain ⟨a1,c1,rfl⟩:=h1.len;obtain ⟨a2,c2,rfl⟩:=h2.len;have H1:=aA h1;have H2:=aA h2;obtain ⟨n,hn⟩:∃ n,n=l.length:=⟨_,rfl⟩;rw [<-hn] at hl H1 H2 ⊢;have HN:=aA hn;clear h1 h2 hn;go_in;go_wp2_with fail;go_loopw [5] (fun iv wr=>∃ k m:Nat,k<=n/\iv=.int .i64 k/\wr=w.drewN m) (fun iv _=>n - (intOf iv).toNat)
 case atStart=>exact ⟨0,0,by omega,rfl,rfl⟩
 case round=>
  obtain ⟨k,m,hk,rfl,rfl⟩:=hrel
  by_cases hlt:k<n
  ·have hlt':k<l.length:=by have:=HN.out;omega
   rcases H1.out with ⟨b1,o1,d1,f1,g1⟩|⟨oa,d,f1,g1⟩;rotate_left
   ·rw [g1] at hlt';simp at hlt'
   rcases H2.out with ⟨b2,o2,d2,f2,g2⟩|⟨oa,d,f2,g2⟩;rotate_left
   ·rw [g2] at hlt';simp at hlt'
   have e1:a1=some ⟨b1,o1,none⟩:=by cases f1;rfl
   have e2:a2=some ⟨b2,o2,none⟩:=by cases f2;rfl
   subst e1 e2;have k1:=g1 k hlt';have k2:=g2 k hlt';have hb1:(0:Int)<=k:=by omega
   have hb2:(k:Int)<n:=by omega
   generalize gI l k=z at*;clear g1 g2 f1 f2;go_wp2_with fail;go_quiet (fail);go_wp2_with fail;exact ⟨⟨k+1,_,by omega,by go_num,rfl⟩,by simp [intOf];omega⟩
  obtain rfl:k=n:=by omega
  have HO:Hid (Only [] w (w.drewN m)):=(Only.refl _ _).drewN m;go_wp2_with fail;exact hR.out _ _ ⟨rfl,HO.out⟩
theorem aKs {N:Hp} (hk:N.Ok) {x:Int} (hx:(N.ob x).isSome=true):∃ n:Nat,N.type x=((N.type x).1,(N.type x).2.1,(n:Int),0)/\n<=48/\(∀ s:Nat,s<n->∃ v,N.get x s=(v,0))/\N.blocks x=((N.blocks x).1,0):=by
 obtain ⟨o,ho⟩:=Option.isSome_iff_exists.1 hx;refine ⟨o.slots.length,by unfold Hp.type;rw [ho],(hk.th x o ho).le,fun s hs=>⟨gI o.slots s,?_⟩,by unfold Hp.blocks;rw [ho]⟩;unfold Hp.get;rw [ho];show (if _ then _ else _)=_;rw [if_neg (by omega),Int.toNat_natCast]
theorem aIN (w:World) {w0:World} {l:List Asn} {i j p q:Nat} {M:Hp} (hf:Fam w0 w l) (hi:l[i]?=some (PH p M)) (hj:l[j]?=some (GH q M)):Calls prog 106 #[.pointer (some ⟨p,0,none⟩),.pointer (some ⟨q,0,none⟩)] w (fun e w'=>e=.returned (.bool true)/\Only [] w w'):=by
 refine aF fun R hR=>?_;have HF:=aA hf;have hk:M.Ok:=(hf.ph i hi).1;have HK:=aA hk;have HP:Hid (∀ wx,Only [] w wx->∃ L X,dH wx L p M X):=fun wx ho=>((hf.aN ho).ph i hi).2;have HG:Hid (∀ wx,Only [] w wx->∃ L X,bF wx L q M X):=fun wx ho=>((hf.aN ho).gh j hj).2;have hlen:M.handles.length<=192:=by
  have:=Mk.aEu (Mk.start M);have h2:(Mk.start M).used<=192:=pU _ _;have h3:(Mk.start M).M.handles.length=M.handles.length:=rfl;omega
 have aRi:Hid (∀ k,k<M.handles.length->(M.ob (gI M.handles k)).isSome=true):=fun k hk2=>hk.aMh.1 (jQ.2 ⟨k,hk2,rfl⟩);obtain ⟨L0,X0,hg0⟩:=HG.out w (Only.refl _ _);have cg:=uN w hg0 hk;clear hf hi hj hk hg0;obtain ⟨hs,hhs⟩:∃ hs,hs=M.handles:=⟨_,rfl⟩;rw [<-hhs] at cg hlen aRi;have HHS:=aA hhs;clear hhs;go_in;go_wp2_with fail;refine cg.mono ?_;rintro e w1 ⟨v,rfl,hi1,ho1⟩;obtain ⟨L1,X1,hp1⟩:=HP.out w1 ho1;have cp:=oV w1 hp1 HK.out;rw [<-HHS.out] at cp;have HI1:=aA hi1;have HO1:=aA ho1;obtain ⟨va,vc,hv⟩:=hi1.len;subst hv;obtain ⟨n,hn⟩:∃ n,n=hs.length:=⟨_,rfl⟩;rw [<-hn] at hlen aRi HI1 ⊢;have HN:=aA hn;clear cg hi1 ho1 hp1 hn;go_wp2_with fail;refine cp.mono ?_;rintro e w2 ⟨v2,rfl,hi2,ho2⟩;have ci:=aAq w2 v2 (.slice va n vc) hs hi2.read (HI1.out.only ho2 (by simp)).read (by rw [<-HN.out];omega);have HO2:Hid (Only [] w w2):=HO1.out.trans ho2 (by simp);obtain ⟨v2a,v2c,hv2⟩:=hi2.len;rw [<-HN.out] at hv2;subst hv2;clear cp hi2;go_wp2_with fail;refine ci.mono ?_;rintro e w3 ⟨rfl,ho3⟩;have HO3:Hid (Only [] w w3):=HO2.out.trans ho3 (by simp);have HRD:Hid (∀ wx,Only [] w3 wx->nI wx (.slice va n vc) hs):=fun wx ho=>((HI1.out.only (ho2.trans ho3 (by simp)) (by simp)).only ho (by simp)).read;clear ci ho3 ho2 HI1 HO1 HO2;go_wp2_with fail;go_loopw [6] (fun iv wr=>∃ k:Nat,k<=n/\iv=.int .i64 k/\Only [] w3 wr) (fun iv _=>n - (intOf iv).toNat)
 case atStart=>exact ⟨0,by omega,rfl,Only.refl _ _⟩
 case round=>as_aux_lemma=>
  obtain ⟨k,hk,rfl,ho⟩:=hrel;have HO:=aA ho
  by_cases hlt:k<n
  ·have hlt1:(k:Int)<(n:Int):=by omega
   have hk0:(0:Int)<=(k:Int):=by omega
   have hks:k<hs.length:=by rw [<-HN.out];exact hlt
   obtain ⟨b1,o1,rfl,c1⟩:=(HRD.out wr ho).at hks;have hmem:=aRi.out k hlt;obtain ⟨m,hty,aTA,hget,hbl⟩:=aKs HK.out hmem;have hir:=HK.out.inR hmem;have HW:=aA (aHs hir);have aRS:=aA hget;have hb7:=jE HK.out (gI hs k);obtain ⟨y,hy⟩:∃ y,y=gI hs k:=⟨_,rfl⟩;rw [<-hy] at hty aRS hbl c1 hb7 HW;have aOb:Hid (∀ wx,Only [] wr wx->wx.cell? ⟨b1,o1+k,none⟩=some (.int .i64 y)):=fun wx ho=>ho.cell c1 (by simp);have HA:Hid (∀ wx,Only [] w3 wx->Calls prog 162 #[.pointer (some ⟨p,0,none⟩),.int .i64 y] wx (fun e w'=>e=.returned (.tuple #[.int .i64 (M.type y).1,.int .i64 (M.type y).2.1,.int .i64 (m:Int),.int .i64 0])/\Only [] wx w')):=fun wx ho=>by
    obtain ⟨L1,X1,h1⟩:=HP.out wx (HO3.out.trans ho (by simp));refine (uY wx h1 y HW.out).mono fun e w' ⟨he,n,hn⟩=>⟨?_,by rw [hn];exact (Only.refl _ _).drewN n⟩;rw [he,hty]
   have HB:Hid (∀ wx,Only [] w3 wx->Calls prog 129 #[.pointer (some ⟨q,0,none⟩),.int .i64 y] wx (fun e w'=>e=.returned (.tuple #[.int .i64 (M.type y).1,.int .i64 (M.type y).2.1,.int .i64 (m:Int),.int .i64 0])/\Only [] wx w')):=fun wx ho=>by
    obtain ⟨L1,X1,h1⟩:=HG.out wx (HO3.out.trans ho (by simp));refine (xX wx h1 HK.out y).mono fun e w' ⟨he,h2⟩=>⟨?_,h2⟩;rw [he,hty]
   have HC:Hid (∀ wx,Only [] w3 wx->Calls prog 115 #[.pointer (some ⟨p,0,none⟩),.int .i64 y] wx (aJX wx ((M.blocks y).1,0))):=fun wx ho=>by
    obtain ⟨L1,X1,h1⟩:=HP.out wx (HO3.out.trans ho (by simp));have:=lD wx h1 HK.out y HW.out;rw [hbl] at this;exact this
   have HD:Hid (∀ wx,Only [] w3 wx->Calls prog 185 #[.pointer (some ⟨q,0,none⟩),.int .i64 y] wx (aJX wx ((M.blocks y).1,0))):=fun wx ho=>by
    obtain ⟨L1,X1,h1⟩:=HG.out wx (HO3.out.trans ho (by simp));have:=yH wx h1 HK.out y;rw [hbl] at this;exact this
   clear ho hmem hty hget hbl c1 hy hir;have c1:=aOb.out wr (Only.refl _ _);have ca:=HA.out wr HO.out;generalize (M.type y).1=t1 at*;generalize (M.type y).2.1=t2 at*;generalize (M.blocks y).1=bl at*;clear HA;go_wp2_with fail;refine ca.mono ?_;rintro e w4 ⟨rfl,ho4⟩;have HO4:Hid (Only [] w3 w4):=HO.out.trans ho4 (by simp);have HR4:=aA ho4;have c4:=aOb.out w4 ho4;have cb:=HB.out w4 HO4.out;clear ca ho4 HB;go_wp2_with fail;refine cb.mono ?_;rintro e w5 ⟨rfl,ho5⟩;have HO5:Hid (Only [] w3 w5):=HO4.out.trans ho5 (by simp);have HR5:Hid (Only [] wr w5):=HR4.out.trans ho5 (by simp);have c5:=aOb.out w5 HR5.out;have cc:=HC.out w5 HO5.out;clear cb ho5 HC HO4 HR4 c4 c1;go_wp2_with fail;refine cc.mono ?_;rintro e w6 ⟨v6,rfl,hi6,ho6⟩;have HO6:Hid (Only [] w3 w6):=HO5.out.trans ho6 (by simp);have HR6:Hid (Only [] wr w6):=HR5.out.trans ho6 (by simp);have c6:=aOb.out w6 HR6.out;have cd:=HD.out w6 HO6.out;have HI6:=aA hi6;obtain ⟨v6a,v6c,hv6⟩:=hi6.len;subst hv6;clear cc hi6 ho6 HD HO5 HR5 c5;go_wp2_with fail;refine cd.mono ?_;rintro e w7 ⟨v7,rfl,hi7,ho7⟩;have HO7:Hid (Only [] w3 w7):=HO6.out.trans ho7 (by simp);have HR7:Hid (Only [] wr w7):=HR6.out.trans ho7 (by simp);obtain ⟨v7a,v7c,hv7⟩:=hi7.len;subst hv7;have ci:=aAq w7 (.slice v6a bl.length v6c) (.slice v7a bl.length v7c) bl (HI6.out.only ho7 (by simp)).read hi7.read (by omega);clear cd hi7 ho7 HO6 HR6 c6 HI6;generalize bl.length=bn at*;go_wp2_with fail;refine ci.mono ?_;rintro e w8 ⟨rfl,ho8⟩;have HO8:Hid (Only [] w3 w8):=HO7.out.trans ho8 (by simp);have HR8:Hid (Only [] wr w8):=HR7.out.trans ho8 (by simp);clear ci ho8 HO7 HR7;go_wp2_with fail;go_loopw [19] (fun iv wq=>∃ s:Nat,s<=m/\iv=.int .i64 s/\Only [] w8 wq) (fun iv _=>m - (intOf iv).toNat)
   case atStart=>exact ⟨0,by omega,rfl,Only.refl _ _⟩
   case round=>as_aux_lemma=>
    obtain ⟨s,hsm,rfl,ho⟩:=hrel;have HOS:=aA ho
    by_cases hls:s<m
    ·have aSB:(s:Int)<(m:Int):=by omega
     obtain ⟨gv,hgv⟩:=aRS.out s hls;have c8:=aOb.out _ (HR8.out.trans ho (by simp));obtain ⟨L1,X1,h1⟩:=HP.out _ (HO3.out.trans (HO8.out.trans ho (by simp)) (by simp));have ga:=aEa _ h1 HK.out y (s:Int) HW.out;rw [hgv] at ga;have HGB:Hid (∀ wx,Only [] w8 wx->Calls prog 182 #[.pointer (some ⟨q,0,none⟩),.int .i64 y,.int .i64 (s:Int)] wx (aK wx (.tuple #[.int .i64 gv,.int .i64 0]))):=fun wx ho=>by
      obtain ⟨L1,X1,h1⟩:=HG.out wx (HO3.out.trans (HO8.out.trans ho (by simp)) (by simp));have:=aAZ wx h1 HK.out y (s:Int);rw [hgv] at this;exact this
     clear ho h1 hgv;go_wp2_with fail;refine ga.mono ?_;rintro e _ ⟨rfl,k9,rfl⟩;have HO9:=aA (HOS.out.drewN k9);have c9:=aOb.out _ (HR8.out.trans HO9.out (by simp));have gb:=HGB.out _ HO9.out;clear ga HGB c8;go_wp2_with fail;refine gb.mono ?_;rintro e _ ⟨rfl,rfl⟩;clear gb;go_wp2_with fail;exact ⟨⟨s+1,by omega,by go_num,HO9.out⟩,by simp [intOf];omega⟩
    obtain rfl:s=m:=by omega
    have aSB:¬ (s:Int)<(s:Int):=by omega
    have HO9:Hid (Only [] w3 _):=HO8.out.trans HOS.out (by simp);clear ho;go_wp2_with fail;exact ⟨⟨k+1,by omega,by go_num,HO9.out⟩,by simp [intOf];omega⟩
  obtain rfl:k=n:=by omega
  have hlt1:¬ (k:Int)<(k:Int):=by omega
  have HE:Hid (Only [] w wr):=HO3.out.trans ho (by simp);clear ho;go_wp2_with fail;exact hR.out _ _ ⟨rfl,HE.out⟩
def P2 (b g:Nat) (c c':Co) (tl:List Asn):List Asn:=CoA b c :: GoA g c' :: tl
theorem oD (w:World) {w0:World} {b g:Nat} {c:Co} {tl:List Asn} (hf:Fam w0 w (P2 b g c c tl)) (h:c.Okc):Calls prog 38 #[.pointer (some ⟨b,0,none⟩),.pointer (some ⟨g,0,none⟩)] w (fun e w'=>e=.returned (.bool true)/\Fam w0 w' (P2 b g c c tl)):=by
 refine aF fun R hR=>?_;have ca:=aJA w hf (i:=0) rfl h;have HH:=aA h;clear hf h;go_in;go_wp2_with fail;refine ca.mono ?_;rintro e w1 ⟨rfl,hf1⟩;have cb:=aIf w1 hf1 (i:=1) rfl HH.out;clear ca hf1;generalize c.step.1=s1 at*;generalize c.step.2.1=s2 at*;go_wp2_with fail;refine cb.mono ?_;rintro e w2 ⟨rfl,hf2⟩;obtain ⟨y,hy,hf3⟩:=GoA.open hf2 (i:=1) rfl;have HY:=aA hy;have F0:Hid (Fam w0 w2 (G5 g c y ++ (CoA b c :: NoA :: tl))):=hf3;have HA:Hid (∀ wx,Fam w0 wx (G5 g c y ++ (CoA b c :: NoA :: tl))->Calls prog 53 #[.pointer (some ⟨b,0,none⟩)] wx (aK wx (.int .i64 (c.ph:Int)))):=fun wx hwx=>yP wx hwx (i:=5) rfl;have HB:Hid (∀ wx,Fam w0 wx (G5 g c y ++ (CoA b c :: NoA :: tl))->Calls prog 104 #[.pointer (some ⟨g,0,none⟩)] wx (aK wx (.int .i64 (c.ph:Int)))):=fun wx hwx=>aGz wx hwx;have HC:Hid (∀ wx,Fam w0 wx (G5 g c y ++ (CoA b c :: NoA :: tl))->Calls prog 54 #[.pointer (some ⟨b,0,none⟩)] wx (aK wx (.int .i64 c.cr))):=fun wx hwx=>aCY wx hwx (i:=5) rfl;have HD:Hid (∀ wx,Fam w0 wx (G5 g c y ++ (CoA b c :: NoA :: tl))->Calls prog 105 #[.pointer (some ⟨g,0,none⟩)] wx (aK wx (.int .i64 c.cr))):=fun wx hwx=>aEb wx hwx;have HE:Hid (∀ wx,Fam w0 wx (G5 g c y ++ (CoA b c :: NoA :: tl))->Calls prog 55 #[.pointer (some ⟨b,0,none⟩)] wx (fun e w'=>∃ q,e=.returned (.pointer (some ⟨q,0,none⟩))/\Fam w0 w' (G5 g c y ++ (CoA b c :: NoA :: (tl ++ [PH q c.m.M]))))):=fun wx hwx=>(aCX wx hwx (i:=5) rfl).mono fun e w' ⟨q,h1,h2,h3⟩=>⟨q,h1,h3⟩;have HG:Hid (∀ wx q,Fam w0 wx (G5 g c y ++ (CoA b c :: NoA :: (tl ++ [PH q c.m.M])))->Calls prog 106 #[.pointer (some ⟨q,0,none⟩),.pointer (some ⟨y.q,0,none⟩)] wx (fun e w'=>e=.returned (.bool true)/\Only [] wx w')):=fun wx q hwx=>aIN wx hwx (i:=7+tl.length) (j:=0) (by
  rw [Nat.add_comm 7];show (_ :: _ :: _ :: _ :: _ :: _ :: _ :: (tl ++ [PH q c.m.M]))[tl.length+7]?=_;simp only [List.getElem?_cons_succ];exact iR _ _) rfl
 clear cb hf2 hy hf3;generalize c.ph=ph at*;generalize c.cr=cr at*;go_wp2_with fail;go_region_held3 (fun w'=>w'.cell? ⟨g,0,none⟩=some (.pointer (some ⟨y.q,0,none⟩)))
  (first|(exact (aY.cells F0.out).1)|(exact (aY.cells F0.out.drew).1)|(exact (aY.cells f3).1)|(exact (aY.cells f4).1))
  (first
   | (go_at_call 53;refine (HA.out _ F0.out.drew).mono ?_;rintro e _ ⟨rfl,rfl⟩)
   | (go_at_call 104;refine (HB.out _ F0.out.drew).mono ?_;rintro e _ ⟨rfl,rfl⟩)
   | (go_at_call 54;refine (HC.out _ F0.out.drew).mono ?_;rintro e _ ⟨rfl,rfl⟩)
   | (go_at_call 105;refine (HD.out _ F0.out.drew).mono ?_;rintro e _ ⟨rfl,rfl⟩)
   | (go_at_call 55;refine (HE.out _ F0.out.drew).mono ?_;rintro e w3 ⟨q,rfl,f3⟩)
   | (go_at_call 106;refine (HG.out _ _ f3).mono ?_;rintro e w4 ⟨rfl,ho4⟩;have f4:=f3.aN ho4))
 have F5:Hid (Fam w0 w4 (P2 b g c c tl)):=by
  have f5:Fam w0 w4 ((G5 g c y ++ (CoA b c :: NoA :: tl)) ++ [PH q c.m.M]):=f4;exact GoA.back (l:=CoA b c :: GoA g c :: tl) (i:=1) f5.pop HY.out rfl
 clear f3 f4 ho4 HA HB HC HD HE HG F0;go_wp2_with fail;exact hR.out _ _ ⟨rfl,F5.out⟩
end Go.Proofs.YthflghdaejbdkaaGreat
