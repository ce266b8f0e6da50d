/- Lemmas of this claim. -/
import Derived.Test.YthflghdaejbdkaaGreatXcRObjN
import Derived.Test.YthflghdaejbdkaaGreatXcLib
import Derived.Test.YthflghdaejbdkaaGreatXcInts
import Derived.Test.YthflghdaejbdkaaGreatXcObjG
import Derived.Test.YthflghdaejbdkaaGreatXcOMaps
import Derived.Lib.SmallJoins
import Derived.Test.YthflghdaejbdkaaGreatXcOFull
namespace Go.Proofs.YthflghdaejbdkaaGreat
open _root_.Go.Proofs.Tryz (prog)
open Go.RowKit Go.Maps
set_option maxHeartbeats 6400000
set_option maxRecDepth 100000
set_option linter.unusedVariables false
def aCK:Value:=.agg #[.int .i64 0,.int .i64 0,.slice none 0 0,.slice none 0 0,.slice none 0 0]
theorem aJU:(prog.info? 217).map (fun i=>(i.zero,i.size,i.bytes))=some (some aCK,5,88):=by kernel_rfl
theorem aMo {n i j:Nat} (hi:i<n) (y:j<5):(madeCells aCK.cells (n*5)).toList[i*5+j]?=some (nT none (.slice none 0 0) (.slice none 0 0) (.slice none 0 0) j):=by
 have z:aCK.cells.size=5:=rfl;have hx:i*5+j<n*5:=by omega
 have e:(i*5+j) % 5=j:=by omega
 have d:aCK.cells[j]?=some (nT none (.slice none 0 0) (.slice none 0 0) (.slice none 0 0) j):=by
  match j,y with
  | 0,_=>rfl
  | 1,_=>rfl
  | 2,_=>rfl
  | 3,_=>rfl
  | 4,_=>rfl
  | j+5,y=>omega
 rw [Array.getElem?_toList];unfold madeCells;rw [Array.getElem?_map,show (Array.range (n*5))[i*5+j]?=some (i*5+j) by simp [hx]];simp only [Option.map_some,z];rw [getElem!_def,e,d]
theorem bH.start {w':World} {hb z q k c l v T T2:Nat} {P:Pl} {cs:List Value} (hp:eH w' q k c l P) (hr:Row w' hb T [.slice (some ⟨z,0,none⟩) 193 193,.pointer (some ⟨q,0,none⟩)]) (ho:Row w' z T2 cs)
  (hc:∀ i:Nat,i<193->∀ j,j<5->cs[i*5+j]?=some (nT none (.slice none 0 0) (.slice none 0 0) (.slice none 0 0) j))
  (h1:v<=q/\v<=k/\v<=c/\v<=l/\v<=z/\v<=hb) (d1:q≠z/\k≠z/\c≠z/\l≠z/\q≠hb/\k≠hb/\c≠hb/\l≠hb/\z≠hb) :
  ∃ d X',bH w' d hb ⟨P,fun _=>none⟩ X'/\(∀ k,d k≠none->v<=k):=by
 obtain ⟨n1,n2,n3,n4,n5,n6⟩:=hp.ne;obtain ⟨_,_,_,_,_,_,_,_,_,f1,f2,f3,f4⟩:=hp.facts;obtain ⟨e1,e2,e3,e4,e5,e6,e7,e8,e9⟩:=d1;have h0:=hr.lt;have h2:=ho.lt;obtain ⟨d,y⟩:∃ d:Nat->Option Gb,d=fun j=>if j=hb then some .mem else if j=z then some .objs else if j=q then some .pq else if j=k then some .pk else if j=c then some .pc else if j=l then some .pl else none:=⟨_,rfl⟩;have e:∀ j,d j≠none->j=hb\/j=z\/j=q\/j=k\/j=c\/j=l:=fun j hj=>by
  rw [y] at hj;simp only at hj
  by_cases a1:j=hb
  ·exact .inl a1
  by_cases a2:j=z
  ·exact .inr (.inl a2)
  by_cases a3:j=q
  ·exact .inr (.inr (.inl a3))
  by_cases a4:j=k
  ·exact .inr (.inr (.inr (.inl a4)))
  by_cases a5:j=c
  ·exact .inr (.inr (.inr (.inr (.inl a5))))
  by_cases a6:j=l
  ·exact .inr (.inr (.inr (.inr (.inr a6))))
  simp [a1,a2,a3,a4,a5,a6] at hj
 refine ⟨d,⟨q,k,c,l,z,193,fun _=>.slice none 0 0,fun _=>.slice none 0 0,fun _=>.slice none 0 0⟩,⟨fun j hj=>?_,⟨T,hr⟩,by rw [y];simp,hp,by rw [y];simp [*],by rw [y];simp [*,Ne.symm n1],by rw [y];simp [*,Ne.symm n2,Ne.symm n4],by rw [y];simp [*,Ne.symm n3,Ne.symm n5,Ne.symm n6],⟨T2,cs,ho,hc⟩,by rw [y];simp [*],fun h o hk=>by cases hk⟩,fun j hj=>?_⟩
 ·rcases e j hj with rfl|rfl|rfl|rfl|rfl|rfl<;>assumption
 rcases e j hj with rfl|rfl|rfl|rfl|rfl|rfl<;>omega
theorem aMI (w:World) (n:Int) (h:n<1\/24<n):Calls prog 89 #[.int .i64 n] w (aO w (.tuple #[.pointer none,.int .i64 1])):=by
 refine aF fun R z=>?_;have y:=aLW w n h;clear h;go_in;go_wp2_with fail;refine y.mono ?_;rintro e _ ⟨rfl,rfl⟩;go_wp2;exact z.out _ _ ⟨rfl,rfl⟩
theorem aDt (w:World) (n:Nat) (h1:1<=n) (h3:n<=24):Calls prog 89 #[.int .i64 n] w fun e w'=>
  ∃ hb L X,e=.returned (.tuple #[.pointer (some ⟨hb,0,none⟩),.int .i64 0])/\bH w' L hb (Hp.new n) X/\(∀ k,L k≠none->w.heap.size<=k)/\Only [] w w':=by
 refine aF fun R hR=>?_;have h2:=aLV w n h1 h3;obtain ⟨i0,h4,h7,d,h8⟩:=info_parts aJU;obtain ⟨C,hC⟩:∃ C:Array Value,C=madeCells aCK.cells (193*5):=⟨_,rfl⟩;have h9:∀ wx,(Instr.makeSlice 207 (.int .i64 193) (.int .i64 193)).run prog wx=.ok (.slice (some ⟨wx.heap.size,0,none⟩) 193 193) (wx.alloc (.cells C 217)):=fun wx=>by
  rw [run_makeSlice (P:=prog) (w:=wx) 207 217 i0 _ Tryz.underlying207 h4 h7 .i64 .i64 _ _ (by omega) (by omega) (by rw [d];omega) (by rw [h8];omega) (by omega),d];rw [hC];rfl
 have HC:Hid (∀ i:Nat,i<193->∀ j,j<5->C.toList[i*5+j]?=some (nT none (.slice none 0 0) (.slice none 0 0) (.slice none 0 0) j)):=fun i hi j hj=>by rw [hC];exact aMo hi hj
 clear hC h1 h3 h4 h7 d h8;go_in;go_wp2_with fail;refine h2.mono ?_;rintro e y ⟨q,k,c,l,rfl,hp,ho,u1,u2,u3,u4⟩;obtain ⟨_,_,_,_,_,_,_,_,_,f1,f2,f3,f4⟩:=hp.facts;have h5:=hp.only (((Only.refl [] y).alloc (.cells C 217)).alloc (.cells #[.slice (some ⟨y.heap.size,0,none⟩) 193 193,.pointer (some ⟨q,0,none⟩)] 209)) (by simp) (by simp) (by simp) (by simp);have z:Row ((y.alloc (.cells C 217)).alloc (.cells #[.slice (some ⟨y.heap.size,0,none⟩) 193 193,.pointer (some ⟨q,0,none⟩)] 209)) (y.heap.size+1) 209 [.slice (some ⟨y.heap.size,0,none⟩) 193 193,.pointer (some ⟨q,0,none⟩)]:=by
  have:=Row.new (y.alloc (.cells C 217)) 209 [.slice (some ⟨y.heap.size,0,none⟩) 193 193,.pointer (some ⟨q,0,none⟩)];rwa [World.size_alloc] at this
 have h0:Row ((y.alloc (.cells C 217)).alloc (.cells #[.slice (some ⟨y.heap.size,0,none⟩) 193 193,.pointer (some ⟨q,0,none⟩)] 209)) y.heap.size 217 C.toList:=(Row.new y 217 C.toList).alloc _;have hO:Only [] w ((y.alloc (.cells C 217)).alloc (.cells #[.slice (some ⟨y.heap.size,0,none⟩) 193 193,.pointer (some ⟨q,0,none⟩)] 209)):=(ho.alloc _).alloc _;have h6:=ho.size;obtain ⟨L1,X1,q1,q2⟩:=bH.start (v:=w.heap.size) h5 z h0 HC.out ⟨u1,u2,u3,u4,h6,by omega⟩ ⟨by omega,by omega,by omega,by omega,by omega,by omega,by omega,by omega,by omega⟩;have Q1:=aA q1;have Q2:=aA q2;have QO:=aA hO;clear h2 hp h5 z h0 hO q1 q2 u1 u2 u3 u4 f1 f2 f3 f4 h6 ho;go_wp2;exact hR.out _ _ ⟨_,L1,X1,rfl,Q1.out,Q2.out,QO.out⟩
set_option maxHeartbeats 3200000
theorem Only.bel {w w':World} (h:Only [] w w'):Below w.heap.size w w':=h.below (Nat.le_refl _) (by simp)
end Go.Proofs.YthflghdaejbdkaaGreat
namespace Go.Proofs.YthflghdaejbdkaaGreat
open _root_.Go.Proofs.Tryz (prog)
open Go.RowKit Go.Maps
set_option maxRecDepth 100000
set_option linter.unusedVariables false
structure Asn where
 holds:World->(Nat->Prop)->Prop
 keep:∀ {w w':World} {S T:Nat->Prop},holds w S->aI T w w'->(∀ k,T k->¬ S k)->holds w' S
 lt:∀ {w:World} {S:Nat->Prop} {k:Nat},holds w S->S k->k<w.heap.size
def Fam (w0 w:World) (l:List Asn):Prop:=
 Only [] w0 w/\∃ S:Nat->Nat->Prop,(∀ (i:Nat) (A:Asn),l[i]?=some A->A.holds w (S i))/\(∀ i j,i<l.length->j<l.length->i≠j->∀ k,S i k->¬ S j k)/\(∀ i,i<l.length->∀ k,S i k->w0.heap.size<=k)
def aTG (w:World) (S:Nat->Prop) (A':Asn) (r:Value) (e:Ending) (w':World):Prop:=
 e=.returned r/\∃ y,A'.holds w' y/\(∀ k,y k->S k\/w.heap.size<=k)/\aI S w w'
def aGo (w w':World) (A:Asn):Prop:=Only [] w w'/\∃ S,A.holds w' S/\∀ k,S k->w.heap.size<=k
section
variable {w0 w w' w1:World} {l:List Asn} {A A':Asn}
theorem Fam.only (h:Fam w0 w l):Only [] w0 w:=h.1
theorem Fam.nil (w:World):Fam w w []:=⟨Only.refl _ _,fun _ _=>False,fun i A h=>by simp at h,fun i j h=>by simp at h,fun i h=>by simp at h⟩
theorem Fam.cell (h:Fam w0 w l) {a:Addr} {v:Value} (y:w0.cell? a=some v):w.cell? a=some v:=h.1.cell y (by simp)
theorem Fam.get (h:Fam w0 w l) (i:Nat) (y:l[i]?=some A):∃ S,A.holds w S/\∀ k,S k->w0.heap.size<=k:=by
 obtain ⟨_,S,z,_,d⟩:=h;exact ⟨S i,z i A y,d i (List.getElem?_eq_some_iff.1 y).1⟩
theorem Fam.dA {T:Nat->Prop} (h:Fam w0 w l) (z:aI T w w') (hT:∀ k,T k->k<w0.heap.size->False) (hd:∀ (i:Nat) (A:Asn) (S:Nat->Prop),l[i]?=some A->A.holds w S->∀ k,T k->¬ S k):Fam w0 w' l:=by
 obtain ⟨y,S,h1,h2,h3⟩:=h;exact ⟨⟨z.os.trans y.os,z.tape.trans y.tape,z.output.trans y.output,Nat.le_trans y.size z.size,fun k e hn=>by
  rw [z.block k (Nat.lt_of_lt_of_le e y.size) (fun x=>hT k x e)];exact y.block k e hn⟩,S,fun i A d=>A.keep (h1 i A d) z (hd i A (S i) d (h1 i A d)),h2,h3⟩
theorem Fam.aN (h:Fam w0 w l) (y:Only [] w w'):Fam w0 w' l:=
 h.dA (T:=fun _=>False) y.xA (fun _ x=>x.elim) (fun _ _ _ _ _ _ x=>x.elim)
theorem Fam.drew (h:Fam w0 w l):Fam w0 w.drew l:=h.aN (Only.refl _ _).drew
theorem Fam.drewN (h:Fam w0 w l) (n:Nat):Fam w0 (w.drewN n) l:=h.aN ((Only.refl _ _).drewN n)
theorem Fam.alloc (h:Fam w0 w l) (o:Obj):Fam w0 (w.alloc o) l:=h.aN ((Only.refl _ _).alloc o)
theorem Fam.step {P:Program} (h:Fam w0 w l) (i:Nat) (hi:l[i]?=some A) {F:FuncId} {h7:Array Value} {r:Value} (hc:∀ S,A.holds w S->Calls P F h7 w (aTG w S A' r)) :
  Calls P F h7 w (fun e w1=>e=.returned r/\Fam w0 w1 (l.set i A')):=by
 obtain ⟨h0,S,h1,h2,h3⟩:=h;refine (hc (S i) (h1 i A hi)).mono fun e w1 ht=>?_;have y:=(List.getElem?_eq_some_iff.1 hi).1;obtain ⟨he,S',hA,hS,ho⟩:=ht;refine ⟨he,⟨ho.os.trans h0.os,ho.tape.trans h0.tape,ho.output.trans h0.output,Nat.le_trans h0.size ho.size,fun k d hn=>by
  rw [ho.block k (Nat.lt_of_lt_of_le d h0.size) (fun x=>by have:=h3 i y k x;omega)];exact h0.block k d hn⟩,fun j=>if j=i then S' else S j,fun j B hj=>?_,fun a b ha hb hab k=>?_,fun j hj k d=>?_⟩
 ·try simp only
  by_cases e:j=i
  ·rw [if_pos e];rw [e,List.getElem?_set_self y] at hj
   cases hj
   exact hA
  rw [if_neg e];rw [List.getElem?_set_ne (fun x=>e x.symm)] at hj;exact B.keep (h1 j B hj) ho (h2 i j y (List.getElem?_eq_some_iff.1 hj).1 (fun x=>e x.symm))
 ·rw [List.length_set] at ha hb
  try simp only
  intro h4 h5
  by_cases e1:a=i
  ·by_cases e2:b=i
   ·exact hab (e1.trans e2.symm)
   rw [if_pos e1] at h4;rw [if_neg e2] at h5;rcases hS k h4 with z|z
   ·exact h2 i b y hb (fun x=>e2 x.symm) k z h5
   have:=(l[b]'hb).lt (h1 b _ (List.getElem?_eq_getElem hb)) h5;omega
  by_cases e2:b=i
  ·rw [if_neg e1] at h4;rw [if_pos e2] at h5;rcases hS k h5 with z|z
   ·exact h2 i a y ha (fun x=>e1 x.symm) k z h4
   have:=(l[a]'ha).lt (h1 a _ (List.getElem?_eq_getElem ha)) h4;omega
  rw [if_neg e1] at h4;rw [if_neg e2] at h5;exact h2 a b ha hb hab k h4 h5
 rw [List.length_set] at hj
 try simp only at d
 by_cases e:j=i
 ·rw [if_pos e] at d;rcases hS k d with z|z
  ·exact h3 i y k z
  have:=h0.size;omega
 rw [if_neg e] at d;exact h3 j hj k d
theorem Fam.add (h:Fam w0 w l) (hb:aGo w w' A):Fam w0 w' (l ++ [A]):=by
 obtain ⟨ho,T,hA,hT⟩:=hb;obtain ⟨h0,S,h1,h2,h3⟩:=h;have h6:∀ i,i<l.length->∀ k,S i k->k<w.heap.size:=fun i hi k hk=>(l[i]'hi).lt (h1 i _ (List.getElem?_eq_getElem hi)) hk;refine ⟨h0.trans ho (by simp),fun j=>if j=l.length then T else S j,fun j B hj=>?_,fun a b ha hb hab k=>?_,fun j hj k hk=>?_⟩
 ·try simp only
  by_cases e:j=l.length
  ·rw [if_pos e];rw [e] at hj;simp at hj;rw [<-hj];exact hA
  rw [if_neg e];have h7:j<l.length:=by
   have:=(List.getElem?_eq_some_iff.1 hj).1;simp at this;omega
  rw [List.getElem?_append_left h7] at hj;exact B.keep (h1 j B hj) (ho.xA (S:=fun _=>False)) (fun _ x=>x.elim)
 ·simp at ha hb
  try simp only
  intro y z
  by_cases e1:a=l.length
  ·by_cases d:b=l.length
   ·exact hab (e1.trans d.symm)
   rw [if_pos e1] at y;rw [if_neg d] at z;have:=hT k y;have:=h6 b (by omega) k z;omega
  by_cases d:b=l.length
  ·rw [if_neg e1] at y;rw [if_pos d] at z;have:=hT k z;have:=h6 a (by omega) k y;omega
  rw [if_neg e1] at y;rw [if_neg d] at z;exact h2 a b (by omega) (by omega) hab k y z
 simp at hj
 try simp only at hk
 by_cases e:j=l.length
 ·rw [if_pos e] at hk;have:=hT k hk;have:=h0.size;omega
 rw [if_neg e] at hk;exact h3 j (by omega) k hk
theorem Fam.pop (h:Fam w0 w (l ++ [A])):Fam w0 w l:=by
 obtain ⟨z,S,d,e,h3⟩:=h;refine ⟨z,S,fun i B y=>d i B ?_,fun i j y hj=>e i j (by simp;omega) (by simp;omega),fun i y=>h3 i (by simp;omega)⟩;rw [List.getElem?_append_left (List.getElem?_eq_some_iff.1 y).1];exact y
def eG (b T:Nat) (cs:List Value):Asn:=
 ⟨fun w S=>Row w b T cs/\∀ k,S k↔k=b,fun h ho hd=>⟨ho.row h.1 (fun x=>hd b x ((h.2 b).2 rfl)),h.2⟩,fun h hk=>by rw [(h.2 _).1 hk];exact h.1.lt⟩
theorem Fam.row {b T:Nat} {cs:List Value} (h:Fam w0 w l) (i:Nat) (z:l[i]?=some (eG b T cs)):Row w b T cs:=by
 obtain ⟨S,y,_⟩:=h.get i z;exact y.1
theorem Fam.addRow (h:Fam w0 w l) (T:Nat) (cs:List Value):Fam w0 (w.alloc (.cells cs.toArray T)) (l ++ [eG w.heap.size T cs]):=
 h.add ⟨(Only.refl [] w).alloc _,fun k=>k=w.heap.size,⟨Row.new w T cs,fun k=>Iff.rfl⟩,fun k hk=>by rw [hk];exact Nat.le_refl _⟩
def dG (v:Value) (l:List Int):Asn:=
 ⟨fun w S=>aK w 0 v l/\∀ k,S k↔v.ownBlock=some k,fun h ho hd=>⟨h.1.dA ho (fun k hk x=>hd k x ((h.2 k).2 hk)),h.2⟩,fun h hk=>(h.1.own _ ((h.2 _).1 hk)).2⟩
theorem Fam.ints {v:Value} {m:List Int} (h:Fam w0 w l) (i:Nat) (z:l[i]?=some (dG v m)):aK w 0 v m:=by
 obtain ⟨S,y,_⟩:=h.get i z;exact y.1
theorem Fam.iK {v:Value} {m:List Int} (h:Fam w0 w l) (z:Only [] w w') (y:aK w' w.heap.size v m):Fam w0 w' (l ++ [dG v m]):=
 h.add ⟨z,fun k=>v.ownBlock=some k,⟨y.base (Nat.zero_le _),fun k=>Iff.rfl⟩,fun k hk=>(y.own k hk).1⟩
end
set_option maxHeartbeats 6400000
def PH (p:Nat) (M:Hp):Asn:=
 ⟨fun w S=>M.OkF/\∃ L X,dK w L p M X/\∀ k,S k↔L k≠none,
  fun h ho hd=>⟨h.1,by
   obtain ⟨_,L,X,z,y⟩:=h;exact ⟨L,X,z.only ho (fun k d=>by
    cases e:L k with
    | none=>rfl
    | some ℓ=>exact absurd ((y k).2 (by rw [e];simp)) (hd k d)),y⟩⟩,
  fun h d=>by
   obtain ⟨_,L,X,z,y⟩:=h;exact z.lt _ ((y _).1 d)⟩
def GH (q:Nat) (M:Hp):Asn:=
 ⟨fun w S=>M.Ok/\∃ L X,bH w L q M X/\∀ k,S k↔L k≠none,
  fun h ho hd=>⟨h.1,by
   obtain ⟨_,L,X,z,y⟩:=h;exact ⟨L,X,z.only ho (fun k d=>by
    cases e:L k with
    | none=>rfl
    | some ℓ=>exact absurd ((y k).2 (by rw [e];simp)) (hd k d)),y⟩⟩,
  fun h d=>by
   obtain ⟨_,L,X,z,y⟩:=h;exact z.lt _ ((y _).1 d)⟩
theorem aJN {α:Type} {l:List α} {i:Nat} {a:α} (h:l[i]?=some a):l.set i a=l:=by
 apply List.ext_getElem?;intro j;rw [List.getElem?_set]
 by_cases e:i=j
 ·subst e;rw [if_pos rfl,if_pos (List.getElem?_eq_some_iff.1 h).1,h]
 rw [if_neg e]
theorem rF {α:Type} {l:List α} {i:Nat} {a b:α} (h:l[i]?=some a):(l ++ [b])[i]?=some a:=by rw [List.getElem?_append_left (List.getElem?_eq_some_iff.1 h).1];exact h
theorem jA {α:Type} (l:List α) (b:α):(l ++ [b])[l.length]?=some b:=by simp
section
variable {w0 w w':World} {l:List Asn} {p q:Nat} {M M':Hp}
theorem Fam.ph (h:Fam w0 w l) (i:Nat) (d:l[i]?=some (PH p M)):M.Ok/\∃ L X,dK w L p M X:=by
 obtain ⟨S,⟨y,L,X,z,_⟩,_⟩:=h.get i d;exact ⟨y.ok,L,X,z⟩
theorem Fam.phF (h:Fam w0 w l) (i:Nat) (z:l[i]?=some (PH p M)):M.OkF:=by
 obtain ⟨S,⟨y,_⟩,_⟩:=h.get i z;exact y
theorem Fam.gh (h:Fam w0 w l) (i:Nat) (d:l[i]?=some (GH q M)):M.Ok/\∃ L X,bH w L q M X:=by
 obtain ⟨S,⟨y,L,X,z,_⟩,_⟩:=h.get i d;exact ⟨y,L,X,z⟩
theorem Fam.aCF (h:Fam w0 w l) (i:Nat) (hi:l[i]?=some (PH p M)) {F:FuncId} {y:Array Value} {r:Value} (d:M.OkF->M'.OkF) (hc:∀ L X,dK w L p M X->M.Ok->Calls prog F y w (vY w L p r M')) :
  Calls prog F y w (fun e w1=>e=.returned r/\Fam w0 w1 (l.set i (PH p M'))):=
 h.step i hi (A':=PH p M') fun S ⟨z,L,X,h1,h2⟩=>(hc L X h1 z.ok).mono fun e w1 ⟨he,L',X',h3,h4,h5⟩=>
  ⟨he,fun k=>L' k≠none,⟨d z,L',X',h3,fun k=>Iff.rfl⟩,fun k z=>(h4 k z).imp (fun x=>(h2 k).2 x) id,h5.mono (fun k z=>.inl ((h2 k).2 z))⟩
theorem Fam.aDn (h:Fam w0 w l) (i:Nat) (hi:l[i]?=some (GH q M)) {F:FuncId} {y:Array Value} {r:Value} (d:M.Ok->M'.Ok) (hc:∀ L X,bH w L q M X->M.Ok->Calls prog F y w (lM w L q r M')) :
  Calls prog F y w (fun e w1=>e=.returned r/\Fam w0 w1 (l.set i (GH q M'))):=
 h.step i hi (A':=GH q M') fun S ⟨z,L,X,h1,h2⟩=>(hc L X h1 z).mono fun e w1 ⟨he,L',X',h3,h4,h5⟩=>
  ⟨he,fun k=>L' k≠none,⟨d z,L',X',h3,fun k=>Iff.rfl⟩,fun k z=>(h4 k z).imp (fun x=>(h2 k).2 x) id,h5.mono (fun k z=>.inl ((h2 k).2 z))⟩
theorem aOq {L:Nat->Option Lb} {X:HX} (h:dK w' L p M X) (z:M.OkF) (y:∀ k,L k≠none->w.heap.size<=k) (d:Only [] w w'):aGo w w' (PH p M):=
 ⟨d,fun k=>L k≠none,⟨z,L,X,h,fun k=>Iff.rfl⟩,y⟩
theorem aOW {L:Nat->Option Gb} {X:GX} (h:bH w' L q M X) (z:M.Ok) (y:∀ k,L k≠none->w.heap.size<=k) (d:Only [] w w'):aGo w w' (GH q M):=
 ⟨d,fun k=>L k≠none,⟨z,L,X,h,fun k=>Iff.rfl⟩,y⟩
end
end Go.Proofs.YthflghdaejbdkaaGreat
