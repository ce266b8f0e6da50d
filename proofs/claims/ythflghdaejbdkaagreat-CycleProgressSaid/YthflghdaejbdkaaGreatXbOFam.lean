/- Lemmas of this claim. -/
import Derived.Deep.DeepFit
import Derived.Test.YthflghdaejbdkaaGreatXbRBlockE
import Derived.Deep.AppendLies
import Derived.Deep.Upon
import Derived.Test.YthflghdaejbdkaaGreatXbLib
import Derived.Test.YthflghdaejbdkaaGreatXbObjD
import Derived.Test.YthflghdaejbdkaaGreatXbArgs
import Derived.Lib.SmallJoins
namespace Go.Proofs.YthflghdaejbdkaaGreat
open _root_.Go.Proofs.Tryz (prog)
open Go.RowKit Go.Maps
set_option maxHeartbeats 1600000
set_option maxRecDepth 100000
set_option linter.unusedVariables false
inductive Gb|mem|pq|pk|pc|pl|objs|rb (h:Int)|sl (h:Int)|bl (h:Int)
 deriving DecidableEq
def oI (o:Option Th) (rv sv bv:Value):Nat->Value
 | 0=>.int .i64 (match o with|none=>0|some o=>o.kind)
 | 1=>.int .i64 (match o with|none=>0|some o=>o.cls)
 | 2=>match o with|none=>.slice none 0 0|some _=>rv
 | 3=>match o with|none=>.slice none 0 0|some _=>sv
 | _=>match o with|none=>.slice none 0 0|some _=>bv
structure GX where
 q:Nat
 k:Nat
 c:Nat
 l:Nat
 og:Nat
 oc:Nat
 rv:Int->Value
 sv:Int->Value
 bv:Int->Value
structure GTh (w:World) (L:Nat->Option Gb) (h:Int) (rv sv bv:Value) (o:Th):Prop where
 rb:Bls w 0 rv o.refs
 Lr:∀ g,rv.ownBlock=some g->L g=some (.rb h)
 sl:aN w 0 sv o.slots
 Ls:∀ g,sv.ownBlock=some g->L g=some (.sl h)
 bl:aN w 0 bv o.blocks
 Lb:∀ g,bv.ownBlock=some g->L g=some (.bl h)
structure bJ (w:World) (L:Nat->Option Gb) (hb:Nat) (M:Hp) (X:GX):Prop where
 lt:∀ k,L k≠none->k<w.heap.size
 mem:∃ T,Row w hb T [.slice (some ⟨X.og,0,none⟩) 193 X.oc,.pointer (some ⟨X.q,0,none⟩)]
 Lm:L hb=some .mem
 pool:fA w X.q X.k X.c X.l M.P
 Lq:L X.q=some .pq
 Lk:L X.k=some .pk
 Lc:L X.c=some .pc
 Ll:L X.l=some .pl
 ob:∃ T cs,Row w X.og T cs/\∀ i:Nat,i<193->∀ j,j<5->cs[i*5+j]?=some (oI (M.ob i) (X.rv i) (X.sv i) (X.bv i) j)
 Lo:L X.og=some .objs
 th:∀ h o,M.ob h=some o->GTh w L h (X.rv h) (X.sv h) (X.bv h) o
section
variable {w w':World} {S:Nat->Prop} {L L':Nat->Option Gb} {hb:Nat} {M:Hp} {X:GX}
theorem fA.dB {q k c l:Nat} {P:Pl} (h:fA w q k c l P) (o:aI S w w') (h1:¬ S q) (d:¬ S k) (e:¬ S c) (h4:¬ S l):fA w' q k c l P:=
 ⟨by obtain ⟨T,c1,c2,c3,r⟩:=h.hq;exact ⟨T,c1,c2,c3,o.row r h1⟩,h.rk.imp fun _ x=>x.imp fun _ y=>o.row y d,h.rc.imp fun _ x=>x.imp fun _ y=>o.row y e,h.rl.imp fun _ x=>x.imp fun _ y=>o.row y h4,
  fun i z=>o.cell (h.kind i z) d,fun i z j hj=>o.cell (h.cells i z j hj) e,fun i z j hj=>o.cell (h.live i z j hj) h4,h.ne,h.n1,h.n24⟩
theorem GTh.only {h:Int} {rv sv bv:Value} {o:Th} (k:GTh w L h rv sv bv o) (d:aI S w w') (z:∀ x,S x->L x≠some (.rb h)/\L x≠some (.sl h)/\L x≠some (.bl h)):GTh w' L h rv sv bv o:=
 ⟨k.rb.dB d (fun g y x=>(z g x).1 (k.Lr g y)),k.Lr,k.sl.dB d (fun g y x=>(z g x).2.1 (k.Ls g y)),k.Ls,k.bl.dB d (fun g y x=>(z g x).2.2 (k.Lb g y)),k.Lb⟩
theorem bJ.only (h:bJ w L hb M X) (z:aI S w w') (hS:∀ k,S k->L k=none):bJ w' L hb M X:=by
 have y:∀ k ℓ,S k->L k≠some ℓ:=fun k ℓ d e=>by rw [hS k d] at e;cases e
 obtain ⟨T1,m1⟩:=h.mem;obtain ⟨T2,cs,m2,n2⟩:=h.ob;exact ⟨fun k d=>Nat.lt_of_lt_of_le (h.lt k d) z.size,⟨T1,z.row m1 (fun x=>y _ _ x h.Lm)⟩,h.Lm,h.pool.dB z (fun x=>y _ _ x h.Lq) (fun x=>y _ _ x h.Lk) (fun x=>y _ _ x h.Lc) (fun x=>y _ _ x h.Ll),h.Lq,h.Lk,h.Lc,h.Ll,
  ⟨T2,cs,z.row m2 (fun x=>y _ _ x h.Lo),n2⟩,h.Lo,fun k t d=>(h.th k t d).only z (fun x hx=>⟨y x _ hx,y x _ hx,y x _ hx⟩)⟩
theorem bJ.aK (h:bJ w L hb M X) (y:Only [] w w'):bJ w' L hb M X:=h.only (y.vU (S:=fun _=>False)) (fun _ x=>x.elim)
theorem bJ.drew (h:bJ w L hb M X):bJ w.drew L hb M X:=h.only ((aI.refl (fun _=>False) w).drew) (fun _ x=>x.elim)
theorem kE {ℓ:Gb} {g:Nat} (y:∀ k,L k≠none->L' k=L k) (h:L g=some ℓ):L' g=some ℓ:=by rw [y g (by rw [h];simp)];exact h
theorem GTh.lab {h:Int} {rv sv bv:Value} {o:Th} (k:GTh w L h rv sv bv o) (z:∀ k,L k≠none->L' k=L k):GTh w L' h rv sv bv o:=
 ⟨k.rb,fun g y=>kE z (k.Lr g y),k.sl,fun g y=>kE z (k.Ls g y),k.bl,fun g y=>kE z (k.Lb g y)⟩
theorem bJ.cells (h:bJ w L hb M X):w.cell? ⟨hb,0,none⟩=some (.slice (some ⟨X.og,0,none⟩) 193 X.oc)/\w.cell? ⟨hb,1,none⟩=some (.pointer (some ⟨X.q,0,none⟩))/\(∀ i,w.frozen? ⟨hb,i,none⟩=false)/\(∀ i,w.frozen? ⟨X.og,i,none⟩=false):=by
 obtain ⟨T,y⟩:=h.mem;obtain ⟨d,cs,z,e⟩:=h.ob;exact ⟨y.cell 0 rfl,y.cell 1 rfl,fun i=>y.free i,fun i=>z.free i⟩
theorem bJ.obj (h:bJ w L hb M X) {i:Nat} (y:i<193) {j:Nat} (z:j<5):w.cell? ⟨X.og,i*5+j,none⟩=some (oI (M.ob i) (X.rv i) (X.sv i) (X.bv i) j):=by
 obtain ⟨T2,cs,d,e⟩:=h.ob;exact d.cell _ (e i y j z)
theorem bJ.aOH (h:bJ w L hb M X) {i:Nat} (y:i<193) (z:M.ob i=none):w.cell? ⟨X.og,i*5,none⟩=some (.int .i64 0):=by
 have:=h.obj y (j:=0) (by omega);rw [z] at this;exact this
theorem bJ.iW (h:bJ w L hb M X) {i:Nat} (y:i<193) {o:Th} (ho:M.ob i=some o):w.cell? ⟨X.og,i*5,none⟩=some (.int .i64 o.kind)/\w.cell? ⟨X.og,i*5+1,none⟩=some (.int .i64 o.cls)/\w.cell? ⟨X.og,i*5+2,none⟩=some (X.rv i)/\w.cell? ⟨X.og,i*5+3,none⟩=some (X.sv i)/\w.cell? ⟨X.og,i*5+4,none⟩=some (X.bv i):=by
 have z:=h.obj y (j:=0) (by omega);have d:=h.obj y (j:=1) (by omega);have e:=h.obj y (j:=2) (by omega);have h3:=h.obj y (j:=3) (by omega);have h4:=h.obj y (j:=4) (by omega);rw [ho] at z d e h3 h4;exact ⟨z,d,e,h3,h4⟩
end
theorem uU (w:World):Calls prog 189 #[.pointer none] w (aO w (.bool false)):=by
 refine aF fun R y=>?_;go_in;go_wp2;exact y.o _ _ ⟨rfl,rfl⟩
section
variable {L:Nat->Option Gb} {hb:Nat} {M:Hp} {X:GX}
theorem fM (w:World) (h:bJ w L hb M X):Calls prog 189 #[.pointer (some ⟨hb,0,none⟩)] w (aO w (.bool true)):=by
 refine aF fun R y=>?_;have z:=h.cells.2.1;clear h;go_in;go_wp2;exact y.o _ _ ⟨rfl,rfl⟩
theorem aCa (w:World) (h:bJ w L hb M X) (d:M.Ok) (x:Int):Calls prog 213 #[.pointer (some ⟨hb,0,none⟩),.int .i64 x] w (aO w (.bool (M.ob x).isSome)):=by
 refine aF fun R z=>?_;have h1:=fM w h;have h2:=h.cells.1
 by_cases hx:1<=x/\x<193
 ·obtain ⟨i,rfl⟩:∃ i:Nat,x=i:=⟨x.toNat,by omega⟩;have hi:i<193:=by omega
  obtain ⟨x1,x2⟩:=hx;have x0:(0:Int)<=i:=by omega
  cases y:M.ob (i:Int) with
  | none=>
   rw [y] at z;have h3:=h.aOH hi y;clear h y d;go_in;go_wp2_with fail;go_fit h1;rintro e _ ⟨rfl,rfl⟩;go_wp2;exact z.o _ _ ⟨rfl,rfl⟩
  | some o=>
   rw [y] at z;have h3:=(h.iW hi y).1;have h0:(o.kind != 0)=true:=by
    have:=(d.th _ o y).kd;simp;omega
   clear h y d;go_in;go_wp2_with fail;go_fit h1;rintro e _ ⟨rfl,rfl⟩;go_wp2;exact z.o _ _ ⟨rfl,rfl⟩
 have y:M.ob x=none:=by
  cases y:M.ob x with
  | none=>rfl
  | some o=>exact absurd (d.hr x o y) (by omega)
 rw [y] at z
 by_cases h3:1<=x
 ·have h4:¬ x<193:=by omega
  clear h y d hx;go_in;go_wp2_with fail;go_fit h1;rintro e _ ⟨rfl,rfl⟩;go_wp2;exact z.o _ _ ⟨rfl,rfl⟩
 clear h y d hx;go_in;go_wp2_with fail;go_fit h1;rintro e _ ⟨rfl,rfl⟩;go_wp2;exact z.o _ _ ⟨rfl,rfl⟩
end
theorem Hp.Ok.idx {M:Hp} (y:M.Ok) {x:Int} {o:Th} (z:M.ob x=some o):∃ i:Nat,x=(i:Int)/\i<193/\(0:Int)<=i/\(i:Int)<193:=by
 have:=y.hr x o z;exact ⟨x.toNat,by omega,by omega,by omega,by omega⟩
theorem Bls.cellsOf {w:World} {base:Nat} {v:Value} {l:List Bool} (h:Bls w base v l) (y:1<=l.length):∃ g cap,v=.slice (some ⟨g,0,none⟩) l.length cap/\∀ i,i<l.length->w.cell? ⟨g,i,none⟩=some (.bool (gB l i)):=by
 rcases h.form with ⟨_,e⟩|⟨g,cap,e,_,_,_,z⟩
 ·rw [e] at y;simp at y
 exact ⟨g,cap,e,z⟩
theorem aKm (w:World) (x:Int):Calls prog 200 #[.pointer none,.int .i64 x] w (aO w (.int .i64 1)):=by
 refine aF fun R z=>?_;have y:=uU w;go_in;go_wp2_with fail;go_fit y;rintro e _ ⟨rfl,rfl⟩;go_wp2;exact z.o _ _ ⟨rfl,rfl⟩
theorem aKn (w:World) (x s:Int):Calls prog 212 #[.pointer none,.int .i64 x,.int .i64 s] w (aO w (.int .i64 1)):=by
 refine aF fun R z=>?_;have y:=aKm w x;go_in;go_wp2_with fail;go_fit y;rintro e _ ⟨rfl,rfl⟩;go_wp2;exact z.o _ _ ⟨rfl,rfl⟩
section
variable {L:Nat->Option Gb} {hb:Nat} {M:Hp} {X:GX}
theorem aDx (w:World) (h:bJ w L hb M X) (y:M.Ok) (x:Int):Calls prog 200 #[.pointer (some ⟨hb,0,none⟩),.int .i64 x] w (aO w (.int .i64 (if (M.ob x).isSome then 0 else 3))):=by
 refine aF fun R hR=>?_;have z:=fM w h;have d:=aCa w h y x;clear h y;generalize (M.ob x).isSome=b at *
 cases b<;>(
  go_in;go_wp2_with fail;go_fit z;rintro e _ ⟨rfl,rfl⟩;go_wp2_with fail;go_fit d;rintro e _ ⟨rfl,rfl⟩;go_wp2;exact hR.o _ _ ⟨rfl,rfl⟩)
theorem lS (w:World) (h:bJ w L hb M X) (y:M.Ok) (x:Int) (z:M.ob x=none):Calls prog 200 #[.pointer (some ⟨hb,0,none⟩),.int .i64 x] w (aO w (.int .i64 3)):=by
 have:=aDx w h y x;rw [z] at this;exact this
theorem lQ (w:World) (h:bJ w L hb M X) (y:M.Ok) (x:Int) {o:Th} (z:M.ob x=some o):Calls prog 200 #[.pointer (some ⟨hb,0,none⟩),.int .i64 x] w (aO w (.int .i64 0)):=by
 have:=aDx w h y x;rw [z] at this;exact this
theorem uX (w:World) (h:bJ w L hb M X) (y:M.Ok) (x s:Int) (z:M.ob x=none):Calls prog 212 #[.pointer (some ⟨hb,0,none⟩),.int .i64 x,.int .i64 s] w (aO w (.int .i64 3)):=by
 refine aF fun R hR=>?_;have d:=lS w h y x z;clear h y z;go_in;go_wp2_with fail;go_fit d;rintro e _ ⟨rfl,rfl⟩;go_wp2;exact hR.o _ _ ⟨rfl,rfl⟩
theorem aBb (w:World) (h:bJ w L hb M X) (hk:M.Ok) (x s:Int) {o:Th} (z:M.ob x=some o):Calls prog 212 #[.pointer (some ⟨hb,0,none⟩),.int .i64 x,.int .i64 s] w (aO w (.int .i64 (if s<0\/(o.slots.length:Int)<=s then 1 else 0))):=by
 refine aF fun R y=>?_;have d:=lQ w h hk x z;have h2:=h.cells.1;obtain ⟨i,rfl,hi,x0,x1⟩:=hk.idx z;have h3:=(h.iW hi z).2.2.2.1;obtain ⟨a,c,hs⟩:=(h.th _ o z).sl.len;rw [hs] at h3;clear h hk z hs hi;generalize o.slots.length=n at *
 by_cases b1:s<0
 ·rw [if_pos (.inl b1)] at y;go_in;go_wp2_with fail;go_fit d;rintro e _ ⟨rfl,rfl⟩;go_wp2;exact y.o _ _ ⟨rfl,rfl⟩
 by_cases b2:(n:Int)<=s
 ·rw [if_pos (.inr b2)] at y;go_in;go_wp2_with fail;go_fit d;rintro e _ ⟨rfl,rfl⟩;go_wp2;exact y.o _ _ ⟨rfl,rfl⟩
 rw [if_neg (by omega)] at y;go_in;go_wp2_with fail;go_fit d;rintro e _ ⟨rfl,rfl⟩;go_wp2;exact y.o _ _ ⟨rfl,rfl⟩
theorem zK (w:World) (h:bJ w L hb M X) (y:M.Ok) (x s:Int) {o:Th} (z:M.ob x=some o) (hs:s<0\/(o.slots.length:Int)<=s):Calls prog 212 #[.pointer (some ⟨hb,0,none⟩),.int .i64 x,.int .i64 s] w (aO w (.int .i64 1)):=by
 have:=aBb w h y x s z;rwa [if_pos hs] at this
theorem aBX (w:World) (h:bJ w L hb M X) (y:M.Ok) (x s:Int) {o:Th} (z:M.ob x=some o) (hs:¬ (s<0\/(o.slots.length:Int)<=s)):Calls prog 212 #[.pointer (some ⟨hb,0,none⟩),.int .i64 x,.int .i64 s] w (aO w (.int .i64 0)):=by
 have:=aBb w h y x s z;rwa [if_neg hs] at this
theorem aGe (w:World) (h:bJ w L hb M X) (hk:M.Ok) (x s:Int):Calls prog 182 #[.pointer (some ⟨hb,0,none⟩),.int .i64 x,.int .i64 s] w (aO w (.tuple #[.int .i64 (M.get x s).1,.int .i64 (M.get x s).2])):=by
 refine aF fun R d=>?_;unfold Hp.get at d
 cases z:M.ob x with
 | none=>
  rw [z] at d;have h1:=uX w h hk x s z;clear h hk z;go_in;go_wp2_with fail;go_fit h1;rintro e _ ⟨rfl,rfl⟩;go_wp2;exact d.o _ _ ⟨rfl,rfl⟩
 | some o=>
  rw [z] at d;simp only at d
  by_cases hs:s<0\/(o.slots.length:Int)<=s
  ·rw [if_pos hs] at d;have h1:=zK w h hk x s z hs;clear h hk z hs;go_in;go_wp2_with fail;go_fit h1;rintro e _ ⟨rfl,rfl⟩;go_wp2;exact d.o _ _ ⟨rfl,rfl⟩
  rw [if_neg hs] at d;have h1:=aBX w h hk x s z hs;have h2:=h.cells.1;obtain ⟨j,rfl⟩:∃ j:Nat,s=j:=⟨s.toNat,by omega⟩;have hj:j<o.slots.length:=by omega
  have j0:(0:Int)<=j:=by omega
  rw [show (j:Int).toNat=j by omega] at d;obtain ⟨i,rfl,hi,x0,x1⟩:=hk.idx z;have h0:=(hk.th _ o z).rl;have h3:=(h.iW hi z).2.2.2.1;obtain ⟨g,cap,hv,hc⟩:=(h.th _ o z).sl.cellsOf (by omega);rw [hv] at h3;have h4:=hc j hj;obtain ⟨n,hn⟩:∃ n,n=o.slots.length:=⟨_,rfl⟩;rw [<-hn] at h3 hj;have h5:(j:Int)<n:=by omega
  generalize gI o.slots j=y at*;clear h hk z hv hc hi h0 hs hn;go_in;go_wp2_with fail;go_fit h1;rintro e _ ⟨rfl,rfl⟩;go_wp2;exact d.o _ _ ⟨rfl,rfl⟩
theorem uY (w:World) (h:bJ w L hb M X) (hk:M.Ok) (x s:Int):Calls prog 176 #[.pointer (some ⟨hb,0,none⟩),.int .i64 x,.int .i64 s] w (aO w (.tuple #[.bool (M.isRef x s).1,.int .i64 (M.isRef x s).2])):=by
 refine aF fun R d=>?_;unfold Hp.isRef at d
 cases z:M.ob x with
 | none=>
  rw [z] at d;have h1:=uX w h hk x s z;clear h hk z;go_in;go_wp2_with fail;go_fit h1;rintro e _ ⟨rfl,rfl⟩;go_wp2;exact d.o _ _ ⟨rfl,rfl⟩
 | some o=>
  rw [z] at d;simp only at d
  by_cases hs:s<0\/(o.slots.length:Int)<=s
  ·rw [if_pos hs] at d;have h1:=zK w h hk x s z hs;clear h hk z hs;go_in;go_wp2_with fail;go_fit h1;rintro e _ ⟨rfl,rfl⟩;go_wp2;exact d.o _ _ ⟨rfl,rfl⟩
  rw [if_neg hs] at d;have h1:=aBX w h hk x s z hs;have h2:=h.cells.1;obtain ⟨j,rfl⟩:∃ j:Nat,s=j:=⟨s.toNat,by omega⟩;have hj:j<o.slots.length:=by omega
  have j0:(0:Int)<=j:=by omega
  rw [show (j:Int).toNat=j by omega] at d;obtain ⟨i,rfl,hi,x0,x1⟩:=hk.idx z;have h0:=(hk.th _ o z).rl;have h3:=(h.iW hi z).2.2.1;obtain ⟨g,cap,hv,hc⟩:=(h.th _ o z).rb.cellsOf (by omega);rw [hv] at h3;have h4:=hc j (by omega);obtain ⟨n,hn⟩:∃ n,n=o.refs.length:=⟨_,rfl⟩;rw [<-hn] at h3;have h5:j<n:=by omega
  have h6:(j:Int)<n:=by omega
  generalize gB o.refs j=y at*;clear h hk z hv hc hi h0 hs hn hj;go_in;go_wp2_with fail;go_fit h1;rintro e _ ⟨rfl,rfl⟩;go_wp2;exact d.o _ _ ⟨rfl,rfl⟩
end
set_option maxHeartbeats 3200000
section
variable {L:Nat->Option Gb} {hb:Nat} {M:Hp} {X:GX}
theorem aDy (w:World) (h:bJ w L hb M X) (hk:M.Ok) (x:Int):Calls prog 129 #[.pointer (some ⟨hb,0,none⟩),.int .i64 x] w (fun e w'=>e=.returned (.tuple #[.int .i64 (M.type x).1,.int .i64 (M.type x).2.1,.int .i64 (M.type x).2.2.1,.int .i64 (M.type x).2.2.2])/\Only [] w w'):=by
 refine aF fun R hR=>?_;unfold Hp.type at hR
 cases d:M.ob x with
 | none=>
  rw [d] at hR;have h1:=lS w h hk x d;clear h hk d;go_in;go_wp2_with fail;go_fit h1;rintro e _ ⟨rfl,rfl⟩;go_wp2;refine bodyPost_ret (kT rfl _ _ _) rfl ?_;exact hR.o _ _ ⟨rfl,Only.refl _ _⟩
 | some o=>
  rw [d] at hR;have h1:=lQ w h hk x d;have h2:=h.cells.1;obtain ⟨i,rfl,hi,x0,x1⟩:=hk.idx d;obtain ⟨c0,c1,c2,c3,c4⟩:=h.iW hi d;obtain ⟨a2,b2,e2⟩:=(h.th _ o d).rb.len;obtain ⟨a3,b3,e3⟩:=(h.th _ o d).sl.len;obtain ⟨a4,b4,e4⟩:=(h.th _ o d).bl.len;rw [e2] at c2;rw [e3] at c3;rw [e4] at c4;replace hR:Hid (∀ e w',e=.returned (.tuple #[.int .i64 o.kind,.int .i64 o.cls,.int .i64 o.slots.length,.int .i64 0])/\Only [] w w'->R e w'):=hR;generalize o.kind=kd at*;generalize o.cls=cl at*;generalize o.slots.length=ln at*;generalize o.refs.length=rn at*;generalize o.blocks.length=bn at*;generalize X.og=og at*;have hO:Hid (Only [] w (w.alloc (.cells #[.int .i64 kd,.int .i64 cl,.slice a2 rn b2,.slice a3 ln b3,.slice a4 bn b4] 217))):=(Only.refl [] w).alloc _;clear h hk d hi e2 e3 e4;go_in;go_wp2_with fail;go_fit h1;rintro e _ ⟨rfl,rfl⟩;go_wp2_with fail;have z:Row (w.alloc (.cells #[.int .i64 kd,.int .i64 cl,.slice a2 rn b2,.slice a3 ln b3,.slice a4 bn b4] 217)) w.heap.size 217 [.int .i64 kd,.int .i64 cl,.slice a2 rn b2,.slice a3 ln b3,.slice a4 bn b4]:=Row.new w _ [_,_,_,_,_];generalize (w.alloc (.cells #[.int .i64 kd,.int .i64 cl,.slice a2 rn b2,.slice a3 ln b3,.slice a4 bn b4] 217))=w6 at*;generalize hy:w.heap.size=y at*;clear hy;have f0:=z.cell 0 rfl;have f1:=z.cell 1 rfl;have f3:=z.cell 3 rfl;clear z h1 h2 c0 c1 c2 c3 c4;go_quiet (fail);go_wp2;refine bodyPost_ret (kT rfl _ _ _) rfl ?_;exact hR.o _ _ ⟨rfl,hO.o.drewN _⟩
theorem aFe (w:World) (h:bJ w L hb M X) (hk:M.Ok) (x:Int):Calls prog 185 #[.pointer (some ⟨hb,0,none⟩),.int .i64 x] w (aLz w (M.blocks x)):=by
 refine aF fun R d=>?_;unfold Hp.blocks at d
 cases z:M.ob x with
 | none=>
  rw [z] at d;have h1:=lS w h hk x z;clear h hk z;go_in;go_wp2_with fail;go_fit h1;rintro e _ ⟨rfl,rfl⟩;go_wp2;exact d.o _ _ ⟨_,rfl,aN.nil _ _,Only.refl _ _⟩
 | some o=>
  rw [z] at d;replace d:Hid (∀ e w',aLz w (o.blocks,0) e w'->R e w'):=d;have h1:=lQ w h hk x z;have h2:=h.cells.1;obtain ⟨h0,h3,_⟩:=hk.aCn z;obtain ⟨i,rfl,hi,x0,x1⟩:=hk.idx z;have c4:=(h.iW hi z).2.2.2.2;obtain ⟨g,cap,hv,hc⟩:=(h.th _ o z).bl.cellsOf h0;rw [hv] at c4;have HC:=aA hc;obtain ⟨n,hn⟩:∃ n,n=o.blocks.length:=⟨_,rfl⟩;rw [<-hn] at c4;have HN:=aA hn;have h4:n<=7:=by omega
  generalize X.og=og at*;have d2:(w.alloc (.cells #[] 3)).cell? ⟨hb,0,none⟩=_:=((Only.refl [] w).alloc _).aS h2;have d4:(w.alloc (.cells #[] 3)).cell? ⟨og,i*5+4,none⟩=_:=((Only.refl [] w).alloc _).aS c4;clear h hk z hi hv hc hn h0 h3 h2 c4;go_in;go_wp2_with fail;go_fit h1;rintro e _ ⟨rfl,rfl⟩;go_wp2_with (at_builtin;refine gW rfl _ _ rfl w.heap.size _ _ rfl (aN.made w) ⟨g,0,none⟩ n cap o.blocks rfl ?c1 ?c2 ?c3 ?c4 ?c5)
  case c1=>exact HN.o.symm
  case c2=>
   intro j u hu;have hj:j<o.blocks.length:=(List.getElem?_eq_some_iff.1 hu).1;have h5:=HC.o j hj;rw [dN,Nat.zero_add,((Only.refl [] w).alloc _).aS h5,gI,hu];rfl
  case c3=>simp;omega
  case c4=>simp
  case c5=>
   intro v' w2 hv z _ _;have HV:=aA hv;have HO:=aA (((Only.refl [] w).alloc _).trans z (fun y hy=>.inr (by simp [Value.ownBlock] at hy;omega)));clear hv z;go_wp2;exact d.o _ _ ⟨v',rfl,HV.o,HO.o⟩
end
section
variable {L:Nat->Option Gb} {hb:Nat} {M:Hp} {X:GX}
theorem zL (w:World) (h:bJ w L hb M X) (hk:M.Ok) (x:Int):Calls prog 158 #[.pointer (some ⟨hb,0,none⟩),.int .i64 x] w (aLz w (M.refs x)):=by
 refine aF fun R hR=>?_;unfold Hp.refs at hR
 cases ho:M.ob x with
 | none=>
  rw [ho] at hR;have h1:=lS w h hk x ho;clear h hk ho;go_in;go_wp2_with fail;go_fit h1;rintro e _ ⟨rfl,rfl⟩;go_wp2;exact hR.o _ _ ⟨_,rfl,aN.nil _ _,Only.refl _ _⟩
 | some o=>
  rw [ho] at hR;have h1:=lQ w h hk x ho;have h2:=h.cells.1;have y2:=(hk.th x o ho).le;have h6:=(hk.th x o ho).rl;obtain ⟨i,rfl,hi,x0,x1⟩:=hk.idx ho;obtain ⟨c0,c1,c2,c3,c4⟩:=h.iW hi ho;obtain ⟨a2,b2,e2⟩:=(h.th _ o ho).rb.len;obtain ⟨a3,b3,e3⟩:=(h.th _ o ho).sl.len;obtain ⟨a4,b4,e4⟩:=(h.th _ o ho).bl.len;have h5:=(h.th _ o ho).rb;have h7:=(h.th _ o ho).sl;rw [e2] at c2 h5;rw [e3] at c3 h7;rw [e4] at c4;rw [h6] at c2 h5;have h9:=aA h5;have x3:=aA h7;obtain ⟨n,hn⟩:∃ n,n=o.slots.length:=⟨_,rfl⟩;rw [<-hn] at c2 c3 y2 h9 x3;have HN:=aA hn;have x2:=aA h6;replace hR:Hid (∀ e w',aLz w (o.fE n,0) e w'->R e w'):=by rw [hn];exact hR
  generalize X.og=og at*;generalize o.kind=kd at*;generalize o.cls=cl at*;generalize o.blocks.length=bn at*;have x4:Hid (Row (w.alloc (.cells #[.int .i64 kd,.int .i64 cl,.slice a2 n b2,.slice a3 n b3,.slice a4 bn b4] 217)) w.heap.size 217 [.int .i64 kd,.int .i64 cl,.slice a2 n b2,.slice a3 n b3,.slice a4 bn b4]):=Row.new w _ [_,_,_,_,_];have h0:Hid (Only [] w (w.alloc (.cells #[.int .i64 kd,.int .i64 cl,.slice a2 n b2,.slice a3 n b3,.slice a4 bn b4] 217))):=(Only.refl [] w).alloc _;clear h hk ho hi e2 e3 e4 h5 h7 hn h6;go_in;go_wp2_with fail;go_fit h1;rintro e _ ⟨rfl,rfl⟩;go_wp2_with fail;generalize (w.alloc (.cells #[.int .i64 kd,.int .i64 cl,.slice a2 n b2,.slice a3 n b3,.slice a4 bn b4] 217))=w6 at*;obtain ⟨y,hy⟩:∃ y,y=w.heap.size:=⟨_,rfl⟩;rw [<-hy] at x4 ⊢;clear h1 h2 c0 c1 c2 c3 c4 hy;go_loopw [8,9] (fun v iv wr=>∃ k:Nat,k<=n/\iv=.int .i64 k/\aN wr w6.heap.size v (o.fE k)/\Only [] w6 wr) (fun _ iv _=>n - (intOf iv).toNat)
  case atStart=>exact ⟨0,by omega,rfl,aN.nil _ _,Only.refl _ _⟩
  case round=>
   obtain ⟨k,hk,rfl,hi,ho⟩:=hrel;have HI:=aA hi;have HO:=aA ho;have h4:=ho.row x4.o (by simp);have f2:wr.cell? ⟨y,2,none⟩=_:=h4.cell 2 rfl;have f3:wr.cell? ⟨y,3,none⟩=_:=h4.cell 3 rfl;obtain ⟨va,vc,hv⟩:=hi.len;obtain ⟨vn,h8⟩:∃ z,z=(o.fE k).length:=⟨_,rfl⟩;rw [<-h8] at hv;subst hv;have y5:=aA h8;clear hi ho h4 h8
   by_cases y7:k<n
   ·obtain ⟨rg,y3⟩:∃ rg,a2=some ⟨rg,0,none⟩/\wr.cell? ⟨rg,k,none⟩=some (.bool (gB o.refs k)):=by
     rcases (h9.o.only (h0.o.trans HO.o (by simp)) (by simp)).form with ⟨_,e⟩|⟨g,c,e,_,_,_,hc⟩
     ·have e5:=x2.o;rw [<-HN.o,e] at e5;simp at e5;omega
     cases e;exact ⟨g,rfl,hc k (by have:=x2.o;have:=HN.o;omega)⟩
    obtain ⟨sg,y4⟩:∃ sg,a3=some ⟨sg,0,none⟩/\wr.cell? ⟨sg,k,none⟩=some (.int .i64 (gI o.slots k)):=by
     rcases (x3.o.only (h0.o.trans HO.o (by simp)) (by simp)).form with ⟨_,e⟩|⟨g,c,e,_,_,_,hc⟩
     ·have e5:=HN.o;rw [e] at e5;simp at e5;omega
     cases e;exact ⟨g,rfl,hc k (by have:=HN.o;omega)⟩
    obtain ⟨rfl,g1⟩:=y3;obtain ⟨rfl,g2⟩:=y4;have x8:(k:Int)<n:=by omega
    have y6:(0:Int)<=k:=by omega
    have d:Hid (o.fE (k+1)=o.fE k ++ if gB o.refs k=true/\gI o.slots k≠0 then [gI o.slots k] else []):=rfl;have x7:=aA (o.jY k);generalize gI o.slots k=z at g2 d
    cases hg:gB o.refs k
    ·rw [hg] at g1 d;have h3:Hid (o.fE (k+1)=o.fE k):=by show _=_;rw [d.o];simp
     clear d hg;go_wp2;exact ⟨⟨k+1,by omega,by go_num,by rw [h3.o];exact HI.o,HO.o⟩,by simp [intOf];omega⟩
    rw [hg] at g1 d
    by_cases hz:z=0
    ·subst hz;have h3:Hid (o.fE (k+1)=o.fE k):=by show _=_;rw [d.o];simp
     clear d hg;go_wp2;exact ⟨⟨k+1,by omega,by go_num,by rw [h3.o];exact HI.o,HO.o⟩,by simp [intOf];omega⟩
    have h3:Hid (o.fE (k+1)=o.fE k ++ [z]):=by show _=_;rw [d.o];simp [hz]
    have y8:(z != 0)=true:=by simpa using hz
    clear d hg hz;go_wp2_with (at_builtin;refine bH rfl _ _ rfl w6.heap.size _ _ rfl (HI.o.alloc (.cells #[.int .i64 z] 3)) wr.heap.size z rfl ?c1 ?c2 ?c3 ?c4)
    case c1=>exact (Row.new wr _ [_]).cell 0 rfl
    case c2=>have:=x7.o;omega
    case c3=>have:=h0.o.size;have:=HO.o.size;simp;omega
    case c4=>
     intro v' w2 x5 x6 y1;have y0:Hid (Only [] w6 w2):=oV HO.o HI.o x6;have x9:=aA x5;clear x5 x6 y1;go_wp2;exact ⟨⟨k+1,by omega,by go_num,by rw [h3.o];exact x9.o,y0.o⟩,by simp [intOf];omega⟩
   obtain rfl:k=n:=by omega
   have x8:¬ (k:Int)<k:=by omega
   go_wp2;exact hR.o _ _ ⟨_,rfl,HI.o.base h0.o.size,h0.o.trans HO.o (by simp)⟩
end
theorem Hp.oH (M:Hp) (k:Nat):(M.aX k).length<=k:=by
 induction k with
 | zero=>exact Nat.le_refl _
 | succ k y=>
  show (M.aX k ++ _).length<=_;rw [List.length_append];split<;>simp<;>omega
section
variable {L:Nat->Option Gb} {hb:Nat} {M:Hp} {X:GX}
theorem aDK (w:World) (h:bJ w L hb M X) (hk:M.Ok):Calls prog 184 #[.pointer (some ⟨hb,0,none⟩)] w (aOb w M.handles):=by
 refine aF fun R hR=>?_;have H:=aA h;have HK:=aA hk;clear h hk;go_in;go_wp2;go_loopw [3,4] (fun v iv wr=>∃ k:Nat,k<=192/\iv=.int .i64 ((k:Int)+1)/\aN wr w.heap.size v (M.aX k)/\Only [] w wr) (fun _ iv _=>193 - (intOf iv).toNat)
 case atStart=>exact ⟨0,by omega,rfl,aN.nil _ _,Only.refl _ _⟩
 case round=>
  obtain ⟨k,hk,rfl,hi,ho⟩:=hrel;have h1:=fM wr (H.o.aK ho);have c0:=(H.o.aK ho).cells.1;have d:=aCa wr (H.o.aK ho) HK.o ((k:Int)+1);obtain ⟨va,vc,hv⟩:=hi.len;obtain ⟨vn,h4⟩:∃ z,z=(M.aX k).length:=⟨_,rfl⟩;rw [<-h4] at hv;subst hv;have HI:=aA hi;have HO:=aA ho;clear hi ho h4
  by_cases x2:k<192
  ·have h6:(k:Int)+1<193:=by omega
   have y:Hid (M.aX (k+1)=M.aX k ++ if (M.ob ((k:Int)+1)).isSome then [(k:Int)+1] else []):=rfl;have h5:=aA (M.oH k)
   cases hg:(M.ob ((k:Int)+1)).isSome
   ·rw [hg] at d y;have h0:Hid (M.aX (k+1)=M.aX k):=by show _=_;rw [y.o];simp
    clear y hg;go_wp2_with fail;go_fit h1;rintro e _ ⟨rfl,rfl⟩;go_wp2_with fail;go_fit d;rintro e _ ⟨rfl,rfl⟩;go_wp2;exact ⟨⟨k+1,by omega,by go_num,by rw [h0.o];exact HI.o,HO.o⟩,by simp [intOf];omega⟩
   rw [hg] at d y;have h0:Hid (M.aX (k+1)=M.aX k ++ [(k:Int)+1]):=by show _=_;rw [y.o];simp
   clear y hg;go_wp2_with fail;go_fit h1;rintro e _ ⟨rfl,rfl⟩;go_wp2_with fail;go_fit d;rintro e _ ⟨rfl,rfl⟩;go_wp2_with (at_builtin;refine bH rfl _ _ rfl w.heap.size _ _ rfl (HI.o.alloc (.cells #[.int .i64 ((k:Int)+1)] 3)) wr.heap.size ((k:Int)+1) rfl ?c1 ?c2 ?c3 ?c4)
   case c1=>exact (Row.new wr _ [_]).cell 0 rfl
   case c2=>have:=h5.o;omega
   case c3=>have:=HO.o.size;simp;omega
   case c4=>
    intro v' w2 h2 h3 x1;have h8:=aA (oV HO.o HI.o h3);have h7:=aA h2;clear h2 h3 x1;go_wp2;exact ⟨⟨k+1,by omega,by go_num,by rw [h0.o];exact h7.o,h8.o⟩,by simp [intOf];omega⟩
  have h6:¬ (k:Int)+1<193:=by omega
  have h9:Hid (k=192):=by show k=192;omega
  clear x2;go_wp2_with fail;go_fit h1;rintro e _ ⟨rfl,rfl⟩;go_wp2;refine hR.o _ _ ⟨_,rfl,?_,HO.o⟩;unfold Hp.handles;rw [<-h9.o];exact HI.o
theorem aDC (w:World) (h:bJ w L hb M X):Calls prog 225 #[.pointer (some ⟨hb,0,none⟩)] w fun e w'=>
  ∃ q k c l,e=.returned (.pointer (some ⟨q,0,none⟩))/\fA w' q k c l M.P/\Only [] w w'/\w.heap.size<=q/\w.heap.size<=k/\w.heap.size<=c/\w.heap.size<=l:=by
 refine aF fun R hR=>?_;have h1:=fM w h;have y:=nS w X.q X.k X.c X.l M.P h.pool;have h3:=h.cells.2.1;clear h;go_in;go_wp2_with fail;go_fit h1;rintro e _ ⟨rfl,rfl⟩;go_wp2_with fail;go_fit y;rintro e w3 ⟨q,k,c,l,rfl,z⟩;have d:=aA z;clear z y;go_wp2;exact hR.o _ _ ⟨q,k,c,l,rfl,d.o⟩
end
theorem nY {n:Nat} (h:n<=7) {c:Int} (y:nG (1+n)=c):aT n=[c]:=by rw [yP (by omega),y]
theorem aHL (w:World) (n:Nat) (hn:n<=48) (a:Bool) (ha:a=false->n<=7):Calls prog 242 #[.int .i64 n,.bool a] w (aOb w (aT n)):=by
 refine aF fun R hR=>?_
 by_cases h7:n<=7
 ·by_cases h1:n<=1
  ·have e:Hid (aT n=[0]):=nY h7 (by unfold nG;rw [if_pos (by omega)]);have h8:(n:Int)<=1:=by omega
   have h4:(n:Int)<=7:=by omega
   rw [e.o] at hR;clear e ha
   cases a<;>(
    go_in;go_wp2;exact hR.o _ _ ⟨_,rfl,aN.one w 0,(Only.refl [] w).alloc _⟩)
  by_cases h3:n<=3
  ·have e:Hid (aT n=[1]):=nY h7 (by unfold nG;rw [if_neg (by omega),if_pos (by omega)]);have h8:¬ (n:Int)<=1:=by omega
   have x6:(n:Int)<=3:=by omega
   have h4:(n:Int)<=7:=by omega
   rw [e.o] at hR;clear e ha
   cases a<;>(
    go_in;go_wp2;exact hR.o _ _ ⟨_,rfl,aN.one w 1,(Only.refl [] w).alloc _⟩)
  have e:Hid (aT n=[2]):=nY h7 (by unfold nG;rw [if_neg (by omega),if_neg (by omega)]);have h8:¬ (n:Int)<=1:=by omega
  have x6:¬ (n:Int)<=3:=by omega
  have h4:(n:Int)<=7:=by omega
  rw [e.o] at hR;clear e ha
  cases a<;>(
   go_in;go_wp2;exact hR.o _ _ ⟨_,rfl,aN.one w 2,(Only.refl [] w).alloc _⟩)
 obtain rfl:a=true:=by
  cases a with
  | true=>rfl
  | false=>exact absurd (ha rfl) h7
 have h4:¬ (n:Int)<=7:=by omega
 have H7:Hid (7<n):=by show 7<n;omega
 have hf:Hid (nG (1+n)=2):=sU (by omega);clear ha h7;go_in;go_wp2_with fail;have y:Hid (aN (w.alloc (.cells #[.int .i64 2] 3)) w.heap.size (.slice (some ⟨w.heap.size,0,none⟩) 1 1) [2]):=aN.one w 2;have d:Hid (Only [] w (w.alloc (.cells #[.int .i64 2] 3))):=(Only.refl [] w).alloc _;generalize (w.alloc (.cells #[.int .i64 2] 3))=w2 at*;go_loopw [5,6] (fun v iv wr=>∃ j:Nat,iv=.int .i64 (j*8:Nat)/\j<=6/\(j=0\/(j - 1)*8<n)/\aN wr w.heap.size v (2 :: List.replicate j 2)/\Only [] w wr) (fun _ iv _=>49 - (intOf iv).toNat)
 case atStart=>exact ⟨0,rfl,by omega,.inl rfl,y.o,d.o⟩
 case round=>
  clear y d w2;obtain ⟨j,rfl,x8,hj,h2,ho⟩:=hrel;obtain ⟨va,vc,hv⟩:=h2.len;rw [show (2 :: List.replicate j (2:Int)).length=j+1 by simp] at hv;subst hv;have y:=aA h2;have d:=aA ho;obtain ⟨ji,h0⟩:∃ z:Int,z=((j*8:Nat):Int):=⟨_,rfl⟩;rw [<-h0];have h6:=aA h0
  by_cases x9:j*8<n
  ·have x2:ji<(n:Int):=by omega
   have y1:0<=ji:=by omega
   obtain ⟨jn,h5⟩:∃ z,z=j+1:=⟨_,rfl⟩;rw [<-h5] at y ⊢;have y0:=aA h5;clear h0 h2 ho h5;go_wp2_with (at_builtin;refine bH rfl _ _ rfl w.heap.size _ _ rfl (y.o.alloc _) wr.heap.size 2 rfl ?c1 ?c2 ?c3 ?c4)
   case c1=>exact (Row.new wr _ [_]).cell 0 rfl
   case c2=>simp;omega
   case c3=>have:=d.o.size;simp;omega
   case c4=>
    intro v' w5 x1 h9 x7;have x5:=aA x1;have x4:Hid (Only [] w w5):=oV d.o y.o h9;clear x1 h9 x7 y d;go_wp2;refine ⟨⟨j+1,?_,?_,?_,?_,x4.o⟩,?_⟩
    ·have:=h6.o;go_num
    ·omega
    ·right;show j*8<n;omega
    ·have:=x5.o;rw [aGn] at this;exact this
    have:=h6.o;simp [intOf];omega
  have x2:¬ ji<(n:Int):=by omega
  have x3:Hid (2 :: List.replicate j (2:Int)=aT n):=by
   have:=aAQ H7.o x9 (by have:=H7.o;omega) (by have:=H7.o;omega);rw [hf.o] at this;exact this
  clear h2 ho h0 hj x8;go_wp2;exact hR.o _ _ ⟨_,rfl,by rw [<-x3.o];exact y.o,d.o⟩
structure aQZ (o:Th):Prop where
 b1:1<=o.blocks.length
 b7:o.blocks.length<=7
 s48:o.slots.length<=48
 rng:∀ m,m<o.blocks.length->0<=gI o.blocks m/\gI o.blocks m<384
 leaf:1<o.blocks.length->∀ s,s<o.slots.length->1+s / 8<o.blocks.length
section
variable {w w':World} {L:Nat->Option Gb} {hb:Nat} {X:GX} {P:Pl} {ob:Int->Option Th}
def kR (o:Option Gb):Prop:=o=some .pq\/o=some .pk\/o=some .pc\/o=some .pl
theorem kR.ne {k:Nat} {ℓ:Gb} (h:kR (L k)) (y:ℓ≠.pq) (z:ℓ≠.pk) (d:ℓ≠.pc) (h4:ℓ≠.pl):L k≠some ℓ:=fun e=>by
 rcases h with h|h|h|h<;>rw [h] at e<;>cases e
 ·exact y rfl
 ·exact z rfl
 ·exact d rfl
 exact h4 rfl
theorem bJ.aCW (h:bJ w L hb ⟨P,ob⟩ X) (y:Only [X.k,X.c,X.l] w w'):aI (fun k=>kR (L k)) w w':=y.toP (fun x hx=>.inl (by
 simp at hx;rcases hx with rfl|rfl|rfl
 ·exact .inr (.inl h.Lk)
 ·exact .inr (.inr (.inl h.Lc))
 exact .inr (.inr (.inr h.Ll))))
theorem bJ.aCV {P':Pl} (h:bJ w L hb ⟨P,ob⟩ X) (y:aI (fun k=>kR (L k)) w w') (hp:fA w' X.q X.k X.c X.l P'):bJ w' L hb ⟨P',ob⟩ X:=by
 obtain ⟨d,m1⟩:=h.mem;obtain ⟨e,cs,m2,n2⟩:=h.ob;exact ⟨fun k z=>Nat.lt_of_lt_of_le (h.lt k z) y.size,⟨d,y.row m1 (fun x=>x.ne (ℓ:=.mem) (by simp) (by simp) (by simp) (by simp) h.Lm)⟩,h.Lm,hp,h.Lq,h.Lk,h.Lc,h.Ll,
  ⟨e,cs,y.row m2 (fun x=>x.ne (ℓ:=.objs) (by simp) (by simp) (by simp) (by simp) h.Lo),n2⟩,h.Lo,fun k t z=>(h.th k t z).only y (fun x hx=>⟨hx.ne (by simp) (by simp) (by simp) (by simp),hx.ne (by simp) (by simp) (by simp) (by simp),hx.ne (by simp) (by simp) (by simp) (by simp)⟩)⟩
theorem bJ.gK {P':Pl} (h:bJ w L hb ⟨P,ob⟩ X) (y:Only [X.k,X.c,X.l] w w') (z:fA w' X.q X.k X.c X.l P'):bJ w' L hb ⟨P',ob⟩ X:=h.aCV (h.aCW y) z
theorem bJ.notP (h:bJ w L hb ⟨P,ob⟩ X) {g:Nat} {ℓ:Gb} (y:L g=some ℓ) (h1:ℓ≠.pq) (z:ℓ≠.pk) (d:ℓ≠.pc) (e:ℓ≠.pl):g∉[X.k,X.c,X.l]:=by
 simp;refine ⟨?_,?_,?_⟩
 ·rintro rfl;rw [h.Lk] at y;cases y;exact z rfl
 ·rintro rfl;rw [h.Lc] at y;cases y;exact d rfl
 rintro rfl;rw [h.Ll] at y;cases y;exact e rfl
end
section
variable {L:Nat->Option Gb} {hb:Nat} {X:GX} {P:Pl} {ob:Int->Option Th}
theorem aBZ (w:World) (h:bJ w L hb ⟨P,ob⟩ X) (a6:P.ok) {i:Nat} (hi:i<193) {o:Th} (ho:ob (i:Int)=some o) (lo:aQZ o) :
  Calls prog 214 #[.pointer (some ⟨hb,0,none⟩),.int .i64 i] w fun e w'=>e=.returned (.tuple #[])/\bJ w' L hb ⟨o.lay P i,ob⟩ X/\aI (fun k=>kR (L k)) w w':=by
 refine aF fun R hR=>?_;have h2:=h.cells.1;obtain ⟨c0,c1,c2,c3,c4⟩:=h.iW (M:=⟨P,ob⟩) hi ho;have x0:(0:Int)<=i:=by omega
 have x1:(i:Int)<193:=by omega
 have th:=h.th (i:Int) o ho;obtain ⟨a2,b2,e2⟩:=th.rb.len;obtain ⟨a3,b3,e3⟩:=th.sl.len;obtain ⟨bg,b4,e4,z1⟩:=th.bl.cellsOf lo.b1;have y5:Hid (L bg=some (.bl i)):=th.Lb bg (by rw [e4];rfl);have y2:=th.sl;have y0:=th.Ls;rw [e2] at c2;rw [e3] at c3 y2 y0;rw [e4] at c4;obtain ⟨bn,z2⟩:∃ z,z=o.blocks.length:=⟨_,rfl⟩;obtain ⟨n,hn⟩:∃ z,z=o.slots.length:=⟨_,rfl⟩;rw [<-z2] at c4 z1;rw [<-hn] at c3 y2 y0;have b6:=aA y2;have b0:=aA y0;have x4:=aA z1;have h5:=aA z2;have HN:=aA hn;have LO:=aA lo;have H:=aA h;have y7:=aA a6;have d0:=aA ho;generalize o.kind=kd at*;generalize o.cls=cl at*;generalize o.refs.length=rn at*;obtain ⟨og,a5⟩:∃ z,z=X.og:=⟨_,rfl⟩;rw [<-a5] at h2 c0 c1 c2 c3 c4;have x9:Hid (Row (w.alloc (.cells #[.int .i64 kd,.int .i64 cl,.slice a2 rn b2,.slice a3 n b3,.slice (some ⟨bg,0,none⟩) bn b4] 217)) w.heap.size 217 [.int .i64 kd,.int .i64 cl,.slice a2 rn b2,.slice a3 n b3,.slice (some ⟨bg,0,none⟩) bn b4]):=Row.new w _ [_,_,_,_,_];have h6:Hid (Only [] w (w.alloc (.cells #[.int .i64 kd,.int .i64 cl,.slice a2 rn b2,.slice a3 n b3,.slice (some ⟨bg,0,none⟩) bn b4] 217))):=(Only.refl [] w).alloc _;clear th h a6 ho lo e2 e3 e4 y2 y0 z1 z2 hn hi a5;go_in;go_wp2_with fail;generalize (w.alloc (.cells #[.int .i64 kd,.int .i64 cl,.slice a2 rn b2,.slice a3 n b3,.slice (some ⟨bg,0,none⟩) bn b4] 217))=w6 at*;obtain ⟨y,hy⟩:∃ y,y=w.heap.size:=⟨_,rfl⟩;rw [<-hy] at x9 ⊢;have y6:Hid (L y=none):=by
  show _=_
  cases e:L y with
  | none=>rfl
  | some ℓ=>have:=H.o.lt y (by rw [e];simp);omega
 clear h2 c0 c1 c2 c3 c4 hy;have x8:=aA (H.o.aK h6.o);have e0:0<bn:=by have:=h5.o;have:=LO.o.b1;omega
 have e6:bn<=7:=by have:=h5.o;have:=LO.o.b7;omega
 have d8:(0:Int)<(bn:Int):=by omega
 have d1:w6.drew.cell? ⟨hb,1,none⟩=some (.pointer (some ⟨X.q,0,none⟩)):=x8.o.cells.2.1;have d4:w6.drew.cell? ⟨y,4,none⟩=some (.slice (some ⟨bg,0,none⟩) bn b4):=x9.o.cell 4 rfl;have db:w6.drew.cell? ⟨bg,0,none⟩=some (.int .i64 (gI o.blocks 0)):=h6.o.aS (x4.o 0 (by have:=LO.o.b1;omega));have n1:hb∉[X.k,X.c,X.l]:=H.o.notP H.o.Lm (by simp) (by simp) (by simp) (by simp);have nb:bg∉[X.k,X.c,X.l]:=H.o.notP y5.o (by simp) (by simp) (by simp) (by simp);have ny:y∉[X.k,X.c,X.l]:=by
  have:=y6.o;simp;refine ⟨?_,?_,?_⟩<;>(rintro rfl;first|(rw [H.o.Lk] at this;cases this)|(rw [H.o.Lc] at this;cases this)|(rw [H.o.Ll] at this;cases this))
 have h3:=aA (nO w6.drew X.q X.k X.c X.l P x8.o.drew.pool y7.o (gI o.blocks 0) i);obtain ⟨a0,y8⟩:∃ z,z=gI o.blocks 0:=⟨_,rfl⟩;rw [<-y8] at h3 db;have h9:=aA y8;clear y8;have N1:=aA n1;have NB:=aA nb;have NY:=aA ny;go_region_held3 (fun w'=>w'.cell? ⟨hb,1,none⟩=some (.pointer (some ⟨X.q,0,none⟩))/\w'.cell? ⟨y,4,none⟩=some (.slice (some ⟨bg,0,none⟩) bn b4)/\w'.cell? ⟨bg,0,none⟩=some (.int .i64 a0))
  (first|(exact ⟨d1,d4,db⟩)|(exact ⟨d.cell d1 n1,d.cell d4 ny,d.cell db nb⟩))
  (first
   | (go_at_call 244;go_fit h3.o;rintro e w7 ⟨rfl,h4,d⟩))
 have z6:Hid (bJ w7 L hb ⟨uO P i o,ob⟩ X):=by
  show bJ _ _ _ _ _;have:=x8.o.drew.gK d h4;unfold uO;rw [<-h9.o];exact this
 have z9:Hid (aI (fun k=>kR (L k)) w6 w7):=(aI.refl _ w6).drew.trans (x8.o.drew.aCW d) (fun x hx=>.inl hx);clear h3 h4 d d1 d4 db n1 nb ny;go_wp2;go_loopw [5] (fun iv wr=>∃ k:Nat,k+1<=bn/\iv=.int .i64 ((k+1:Nat):Int)/\bJ wr L hb ⟨qW (uO P i o) o k,ob⟩ X/\aI (fun k=>kR (L k)) w6 wr) (fun iv _=>8 - (intOf iv).toNat)
 case atStart=>exact ⟨0,by omega,rfl,z6.o,z9.o⟩
 case round=>
  clear z6 z9;obtain ⟨k,hk,rfl,hg,ho⟩:=hrel;have HG:=aA hg;have HO:=aA ho;have h8:¬ kR (L y):=by rw [y6.o];rintro (h|h|h|h)<;>cases h
  have h0:=ho.row x9.o h8;have d4:wr.cell? ⟨y,4,none⟩=some (.slice (some ⟨bg,0,none⟩) bn b4):=h0.cell 4 rfl
  by_cases a4:k+1<bn
  ·have y4:(((k+1:Nat):Int))<(bn:Int):=by omega
   have b8:(0:Int)<=((k+1:Nat):Int):=by omega
   have c7:((k+1:Nat):Int)<=7:=by omega
   obtain ⟨y9,z0⟩:=LO.o.rng 0 LO.o.b1;rw [<-h9.o] at y9 z0;have e1:wr.drew.cell? ⟨hb,1,none⟩=some (.pointer (some ⟨X.q,0,none⟩)):=hg.cells.2.1;have e4:wr.drew.cell? ⟨y,4,none⟩=some (.slice (some ⟨bg,0,none⟩) bn b4):=d4;have h7:¬ kR (L bg):=by rw [y5.o];rintro (h|h|h|h)<;>cases h
   have eb:wr.drew.cell? ⟨bg,0,none⟩=some (.int .i64 a0):=by rw [h9.o];exact ho.cell (h6.o.aS (x4.o 0 (by omega))) h7
   have ek:wr.drew.cell? ⟨bg,k+1,none⟩=some (.int .i64 (gI o.blocks (k+1))):=ho.cell (h6.o.aS (x4.o (k+1) a4)) h7;have x3:(qW (uO P i o) o k).ok:=(aFX y7.o i o k 0).1;have h3:=aA (nO wr.drew X.q X.k X.c X.l _ hg.drew.pool x3 (a0+((k+1:Nat):Int)) (gI o.blocks (k+1)));have kM:Hid (True->qW (uO P i o) o (k+1)=((qW (uO P i o) o k).setCell (a0+((k+1:Nat):Int)) (gI o.blocks (k+1))).2):=fun _=>by rw [h9.o];rfl
   have z5:IntKind.i64.wrap (a0+((k+1:Nat):Int))=a0+((k+1:Nat):Int):=IntWalk.i64_in _ (by omega);obtain ⟨kn,z3⟩:∃ z,z=k+1:=⟨_,rfl⟩;rw [<-z3] at a4 y4 b8 c7 ek h3 kM z5 ⊢;generalize gI o.blocks kn=z at*;generalize (qW (uO P i o) o k).setCell (a0+(kn:Int)) z=r at*;obtain ⟨r1,r2⟩:=r;have c9:=aA z3;have n1:=N1.o;have nb:=NB.o;have ny:=NY.o;clear hg ho h0 x3 z3 h8 h7;go_wp2_with fail;clear d4;go_region_held3 (fun w'=>w'.cell? ⟨hb,1,none⟩=some (.pointer (some ⟨X.q,0,none⟩))/\w'.cell? ⟨y,4,none⟩=some (.slice (some ⟨bg,0,none⟩) bn b4)/\w'.cell? ⟨bg,0,none⟩=some (.int .i64 a0)/\w'.cell? ⟨bg,kn,none⟩=some (.int .i64 z))
    (first|(exact ⟨e1,e4,eb,ek⟩)|(exact ⟨d.cell e1 n1,d.cell e4 ny,d.cell eb nb,d.cell ek nb⟩))
    (first
     | (go_at_call 244;go_fit h3.o;rintro e w8 ⟨rfl,h4,d⟩))
   have x5:Hid (bJ w8 L hb ⟨qW (uO P i o) o kn,ob⟩ X):=by
    show bJ _ _ _ _ _;have h1:=kM.o trivial;rw [h1];exact HG.o.drew.gK d h4
   have x6:Hid (aI (fun k=>kR (L k)) w6 w8):=HO.o.drew.trans (HG.o.drew.aCW d) (fun x hx=>.inl hx);clear h3 h4 d e1 e4 eb ek n1 nb ny kM;go_wp2;exact ⟨⟨kn,by omega,by go_num,x5.o,x6.o⟩,by simp [intOf];omega⟩
  have y4:¬ (((k+1:Nat):Int))<(bn:Int):=by omega
  have a9:Hid (k=bn - 1):=by show k=bn - 1;omega
  have z7:Hid (bJ wr L hb ⟨qW (uO P i o) o (o.blocks.length - 1),ob⟩ X):=by
   show bJ _ _ _ _ _;rw [<-h5.o,<-a9.o];exact hg
  have z8:=aA ho;clear hg ho h0 h8 HG HO;go_wp2_with fail;clear d4;go_loopw [6] (fun iv wr=>∃ j:Nat,j<=n/\iv=.int .i64 j/\bJ wr L hb ⟨aEg (qW (uO P i o) o (o.blocks.length - 1)) o j,ob⟩ X/\aI (fun k=>kR (L k)) w6 wr) (fun iv _=>49 - (intOf iv).toNat)
  case atStart=>exact ⟨0,by omega,rfl,z7.o,z8.o⟩
  case round=>
   clear z7 z8;obtain ⟨j,hj,rfl,hg,ho⟩:=hrel;have HG:=aA hg;have HO:=aA ho;have h8:¬ kR (L y):=by rw [y6.o];rintro (h|h|h|h)<;>cases h
   have h0:=ho.row x9.o h8;have d3:wr.cell? ⟨y,3,none⟩=some (.slice a3 n b3):=h0.cell 3 rfl
   by_cases e8:j<n
   ·obtain ⟨sg,c8⟩:∃ sg,a3=some ⟨sg,0,none⟩/\wr.cell? ⟨sg,j,none⟩=some (.int .i64 (gI o.slots j))/\L sg=some (.sl i):=by
     rcases b6.o.form with ⟨_,e⟩|⟨g,c,e,_,_,_,hc⟩
     ·have e5:=HN.o;rw [e] at e5;simp at e5;omega
     cases e
     have a1:=b0.o g rfl;exact ⟨g,rfl,ho.cell (h6.o.aS (hc j (by have:=HN.o;omega))) (by show ¬ kR (L g);rw [a1];rintro (h|h|h|h)<;>cases h),a1⟩
    obtain ⟨rfl,es,c5⟩:=c8;have b9:(j:Int)<(n:Int):=by omega
    have e7:(0:Int)<=j:=by omega
    have d7:(j:Int)<48:=by have:=LO.o.s48;have:=HN.o;omega
    obtain ⟨y9,z0⟩:=LO.o.rng 0 LO.o.b1;rw [<-h9.o] at y9 z0;have h7:¬ kR (L bg):=by rw [y5.o];rintro (h|h|h|h)<;>cases h
    have d4:wr.cell? ⟨y,4,none⟩=some (.slice (some ⟨bg,0,none⟩) bn b4):=h0.cell 4 rfl;have eb:wr.cell? ⟨bg,0,none⟩=some (.int .i64 a0):=by rw [h9.o];exact ho.cell (h6.o.aS (x4.o 0 (by omega))) h7
    have e1:wr.drew.cell? ⟨hb,1,none⟩=some (.pointer (some ⟨X.q,0,none⟩)):=hg.cells.2.1;have e3:wr.drew.cell? ⟨y,3,none⟩=some (.slice (some ⟨sg,0,none⟩) n b3):=d3;have ed:wr.drew.cell? ⟨sg,j,none⟩=some (.int .i64 (gI o.slots j)):=es;have x3:(aEg (qW (uO P i o) o (o.blocks.length - 1)) o j).ok:=(aFX y7.o i o _ j).1;have kM:Hid (aEg (qW (uO P i o) o (o.blocks.length - 1)) o (j+1)=((aEg (qW (uO P i o) o (o.blocks.length - 1)) o j).setCell (o.addr j) (gI o.slots j)).2):=rfl;have x7:=aA (fun z=>nO wr.drew X.q X.k X.c X.l _ hg.drew.pool x3 z (gI o.slots j));have n1:=N1.o;have ny:=NY.o;have y3:sg∉[X.k,X.c,X.l]:=H.o.notP c5 (by simp) (by simp) (by simp) (by simp);obtain ⟨sj,y1⟩:∃ z,z=gI o.slots j:=⟨_,rfl⟩;rw [<-y1] at es ed x7 kM;have d2:=aA y1
    by_cases d9:1<bn
    ·have c6:(1:Int)<bn:=by omega
     have hm:=LO.o.leaf (by have:=h5.o;omega) j (by have:=HN.o;omega);have x2:o.addr j=gI o.blocks (1+j / 8)+((j % 8:Nat):Int):=by unfold Th.addr;rw [if_pos (by have:=h5.o;omega)]
     have hr:=LO.o.rng _ hm;have em:wr.cell? ⟨bg,1+j / 8,none⟩=some (.int .i64 (gI o.blocks (1+j / 8))):=ho.cell (h6.o.aS (x4.o _ (by have:=h5.o;omega))) h7;obtain ⟨z,hz⟩:∃ z,z=gI o.blocks (1+j / 8):=⟨_,rfl⟩;rw [<-hz] at em hr x2;obtain ⟨q,hq⟩:∃ q,q=j / 8:=⟨_,rfl⟩;obtain ⟨r,a7⟩:∃ r,r=j % 8:=⟨_,rfl⟩;rw [<-hq] at em;rw [<-a7] at x2;have e9:(1:Int)+q<bn:=by have:=h5.o;omega
     have f1:(j:Int) / 8=(q:Int):=by omega
     have f3:(j:Int) % 8=(r:Int):=by omega
     have f2:(r:Int)<8:=by omega
     have d5:(0:Int)<=r:=by omega
     have d6:(0:Int)<=q:=by omega
     have f0:(q:Int)<=6:=by omega
     obtain ⟨f4,f5⟩:=hr;have h3:=aA (x7.o (z+(r:Int)));rw [x2] at kM;generalize (aEg (qW (uO P i o) o (o.blocks.length - 1)) o j).setCell (z+(r:Int)) sj=z4 at*;obtain ⟨r1,r2⟩:=z4;clear hg ho h0 x3 h7 h8 hm x2 hz hq a7 x7 y1;go_wp2_with fail;clear d3 d4 eb em es;go_region_held3 (fun w'=>w'.cell? ⟨hb,1,none⟩=some (.pointer (some ⟨X.q,0,none⟩))/\w'.cell? ⟨y,3,none⟩=some (.slice (some ⟨sg,0,none⟩) n b3)/\w'.cell? ⟨sg,j,none⟩=some (.int .i64 sj))
      (first|(exact ⟨e1,e3,ed⟩)|(exact ⟨d.cell e1 n1,d.cell e3 ny,d.cell ed y3⟩))
      (first
       | (go_at_call 244;go_fit h3.o;rintro e w8 ⟨rfl,h4,d⟩))
     have x5:Hid (bJ w8 L hb ⟨aEg (qW (uO P i o) o (o.blocks.length - 1)) o (j+1),ob⟩ X):=by
      show bJ _ _ _ _ _;rw [kM.o];exact HG.o.drew.gK d h4
     have x6:Hid (aI (fun k=>kR (L k)) w6 w8):=HO.o.drew.trans (HG.o.drew.aCW d) (fun x hx=>.inl hx);clear h3 h4 d e1 e3 ed n1 y3 ny kM;go_wp2;exact ⟨⟨j+1,by omega,by go_num,x5.o,x6.o⟩,by simp [intOf];omega⟩
    have c6:¬ (1:Int)<bn:=by omega
    have x2:o.addr j=a0+1+(j:Int):=by rw [h9.o];unfold Th.addr;rw [if_neg (by have:=h5.o;omega)]
    have h3:=aA (x7.o (a0+1+(j:Int)));rw [x2] at kM;generalize (aEg (qW (uO P i o) o (o.blocks.length - 1)) o j).setCell (a0+1+(j:Int)) sj=z4 at*;obtain ⟨r1,r2⟩:=z4;clear hg ho h0 x3 h7 h8 x2 x7 y1;go_wp2_with fail;clear d3 d4 eb es;go_region_held3 (fun w'=>w'.cell? ⟨hb,1,none⟩=some (.pointer (some ⟨X.q,0,none⟩))/\w'.cell? ⟨y,3,none⟩=some (.slice (some ⟨sg,0,none⟩) n b3)/\w'.cell? ⟨sg,j,none⟩=some (.int .i64 sj))
     (first|(exact ⟨e1,e3,ed⟩)|(exact ⟨d.cell e1 n1,d.cell e3 ny,d.cell ed y3⟩))
     (first
      | (go_at_call 244;go_fit h3.o;rintro e w8 ⟨rfl,h4,d⟩))
    have x5:Hid (bJ w8 L hb ⟨aEg (qW (uO P i o) o (o.blocks.length - 1)) o (j+1),ob⟩ X):=by
     show bJ _ _ _ _ _;rw [kM.o];exact HG.o.drew.gK d h4
    have x6:Hid (aI (fun k=>kR (L k)) w6 w8):=HO.o.drew.trans (HG.o.drew.aCW d) (fun x hx=>.inl hx);clear h3 h4 d e1 e3 ed n1 y3 ny kM;go_wp2;exact ⟨⟨j+1,by omega,by go_num,x5.o,x6.o⟩,by simp [intOf];omega⟩
   obtain rfl:j=n:=by omega
   have b9:¬ (j:Int)<(j:Int):=by omega
   have a8:Hid (bJ wr L hb ⟨o.lay P i,ob⟩ X):=by
    show bJ _ _ _ _ _;unfold Th.lay;rw [<-HN.o];exact hg
   have b5:Hid (aI (fun k=>kR (L k)) w wr):=(h6.o.vU).trans ho (fun x hx=>.inl hx);clear hg ho h0 h8;go_wp2_with fail;go_end0;exact hR.o _ _ ⟨rfl,a8.o,b5.o⟩
end
set_option maxHeartbeats 1600000
def lW (w:World) (L:Nat->Option Gb) (hb:Nat) (r:Value) (M':Hp) (e:Ending) (w':World):Prop:=
 e=.returned r/\∃ y z,bJ w' y hb M' z/\(∀ k,y k≠none->L k≠none\/w.heap.size<=k)/\aI (fun k=>L k≠none) w w'
theorem Hp.Ok.aMB {M:Hp} (y:M.Ok) {h:Int} {o:Th} (z:M.ob h=some o):aQZ o:=by
 obtain ⟨d,e,h3,h4⟩:=y.aCn z;exact ⟨d,e,(y.th h o z).le,fun m hm=>y.xE z hm,fun hb s hs=>by have:=h4 (h3.1 hb);omega⟩
def aPh (cs:List Value) (i:Nat) (f:Nat->Value):List Value:=((((cs.set (i*5) (f 0)).set (i*5+1) (f 1)).set (i*5+2) (f 2)).set (i*5+3) (f 3)).set (i*5+4) (f 4)
theorem aNb {cs:List Value} {i:Nat} {f:Nat->Value} (d:i*5+4<cs.length) {y j:Nat} (z:j<5):(aPh cs i f)[y*5+j]?=if y=i then some (f j) else cs[y*5+j]?:=by
 unfold aPh;simp only [List.getElem?_set,List.length_set]
 by_cases e:y=i
 ·subst e;rw [if_pos rfl]
  match j,z with
  | 0,_=>rw [if_neg (by omega),if_neg (by omega),if_neg (by omega),if_neg (by omega),if_pos (by omega),if_pos (by omega)]
  | 1,_=>rw [if_neg (by omega),if_neg (by omega),if_neg (by omega),if_pos rfl,if_pos (by omega)]
  | 2,_=>rw [if_neg (by omega),if_neg (by omega),if_pos rfl,if_pos (by omega)]
  | 3,_=>rw [if_neg (by omega),if_pos rfl,if_pos (by omega)]
  | 4,_=>rw [if_pos rfl,if_pos (by omega)]
  | j+5,z=>omega
 rw [if_neg e,if_neg (by omega),if_neg (by omega),if_neg (by omega),if_neg (by omega),if_neg (by omega)]
section
variable {w w':World} {L L':Nat->Option Gb} {hb:Nat} {M:Hp} {X X':GX} {P:Pl} {ob ob':Int->Option Th}
theorem lW.none0 {r:Value} (h:bJ w L hb M X) (y:Only [] w w'):lW w L hb r M (.returned r) w':=
 ⟨rfl,L,X,h.aK y,fun k z=>.inl z,y.vU⟩
theorem lW.of {w0:World} {r:Value} (z:aI (fun k=>L k≠none) w0 w') (h:bJ w' L' hb M X) (y:∀ k,L' k≠none->L k≠none\/w0.heap.size<=k):lW w0 L hb r M (.returned r) w':=⟨rfl,L',X,h,y,z⟩
theorem bJ.aIJ (h:bJ w L hb ⟨P,ob⟩ X) (hP:aI (fun k=>L k=some .objs) w w') (hX:X'.q=X.q/\X'.k=X.k/\X'.c=X.c/\X'.l=X.l/\X'.og=X.og/\X'.oc=X.oc) (y:∀ k,L k≠none->L' k=L k) (h0:∀ k,L' k≠none->k<w'.heap.size)
  (d:∃ T cs,Row w' X.og T cs/\∀ i:Nat,i<193->∀ j,j<5->cs[i*5+j]?=some (oI (ob' i) (X'.rv i) (X'.sv i) (X'.bv i) j)) (h2:∀ k o,ob' k=some o->GTh w' L' k (X'.rv k) (X'.sv k) (X'.bv k) o):bJ w' L' hb ⟨P,ob'⟩ X':=by
 obtain ⟨e1,e2,e3,e4,e5,e6⟩:=hX;have z:∀ k ℓ,ℓ≠Gb.objs->L k=some .objs->L k≠some ℓ:=fun k ℓ h1 hk e=>by rw [hk] at e;cases e;exact h1 rfl
 obtain ⟨T1,m1⟩:=h.mem;refine ⟨h0,⟨T1,?_⟩,kE y h.Lm,?_,?_,?_,?_,?_,?_,?_,h2⟩
 ·rw [e5,e6,e1];exact hP.row m1 (fun x=>z _ .mem (by simp) x h.Lm)
 ·rw [e1,e2,e3,e4];exact h.pool.dB hP (fun x=>z _ .pq (by simp) x h.Lq) (fun x=>z _ .pk (by simp) x h.Lk) (fun x=>z _ .pc (by simp) x h.Lc) (fun x=>z _ .pl (by simp) x h.Ll)
 ·rw [e1];exact kE y h.Lq
 ·rw [e2];exact kE y h.Lk
 ·rw [e3];exact kE y h.Lc
 ·rw [e4];exact kE y h.Ll
 ·rw [e5];exact d
 rw [e5];exact kE y h.Lo
theorem bJ.wR (h:bJ w L hb ⟨P,ob⟩ X) (y:List Value) (o:Nat):aI (fun k=>L k=some .objs) w (w.setCells X.og o y):=(aI.refl _ w).setCells (.inl h.Lo) y o
theorem bJ.aNR (h:bJ w L hb ⟨P,ob⟩ X) {i:Nat} (hi:i<193) (f:Nat->Value):∃ T cs,Row (w.setCells X.og (i*5) [f 0,f 1,f 2,f 3,f 4]) X.og T cs/\∀ y:Nat,y<193->∀ j,j<5->cs[y*5+j]?=some (if y=i then f j else oI (ob y) (X.rv y) (X.sv y) (X.bv y) j):=by
 obtain ⟨T,cs,hr,d⟩:=h.ob;have hl:i*5+4<cs.length:=(List.getElem?_eq_some_iff.1 (d i hi 4 (by omega))).1;refine ⟨T,aPh cs i f,((((hr.set (i*5) (f 0)).set (i*5+1) (f 1)).set (i*5+2) (f 2)).set (i*5+3) (f 3)).set (i*5+4) (f 4),fun y z j e=>?_⟩;rw [aNb hl e,d y z j e];split<;>rfl
theorem bJ.setObj (h:bJ w L hb ⟨P,ob⟩ X) {i:Nat} (hi:i<193) (t:Th) {rv sv bv:Value} {v:Nat} (h1:Bls w v rv t.refs) (h2:aN w v sv t.slots) (h3:aN w v bv t.blocks) (hn:∀ k,v<=k->L k=none)
  (d1:∀ g,rv.ownBlock=some g->sv.ownBlock≠some g/\bv.ownBlock≠some g) (d2:∀ g,sv.ownBlock=some g->bv.ownBlock≠some g) :
  ∃ L' X',bJ (w.setCells X.og (i*5) [.int .i64 t.kind,.int .i64 t.cls,rv,sv,bv]) L' hb ⟨P,eU ob i (some t)⟩ X'/\(X'.q=X.q/\X'.k=X.k/\X'.c=X.c/\X'.l=X.l/\X'.og=X.og/\X'.oc=X.oc)/\(∀ k,L k≠none->L' k=L k)/\(∀ k,L' k≠none->L k≠none\/v<=k):=by
 obtain ⟨L',z⟩:∃ L':Nat->Option Gb,L'=fun k=>if rv.ownBlock=some k then some (.rb i) else if sv.ownBlock=some k then some (.sl i) else if bv.ownBlock=some k then some (.bl i) else L k:=⟨_,rfl⟩;have h7:∀ k,L k≠none->¬ v<=k:=fun k hk e=>hk (hn k e);have d:∀ k,L k≠none->L' k=L k:=fun k hk=>by
  have:=h7 k hk;rw [z];simp only;rw [if_neg (fun e=>by have:=(h1.own k e).1;omega),if_neg (fun e=>by have:=(h2.own k e).1;omega),if_neg (fun e=>by have:=(h3.own k e).1;omega)]
 have hO:=h.wR [.int .i64 t.kind,.int .i64 t.cls,rv,sv,bv] (i*5);have h0:∀ k,L' k≠none->L k≠none\/(v<=k/\k<w.heap.size):=fun k hk=>by
  rw [z] at hk;simp only at hk
  by_cases e1:rv.ownBlock=some k
  ·exact .inr (h1.own k e1)
  rw [if_neg e1] at hk
  by_cases e2:sv.ownBlock=some k
  ·exact .inr (h2.own k e2)
  rw [if_neg e2] at hk
  by_cases e3:bv.ownBlock=some k
  ·exact .inr (h3.own k e3)
  rw [if_neg e3] at hk;exact .inl hk
 have h4:∀ k,v<=k->L k≠some .objs:=fun k hk e=>by rw [hn k hk] at e;cases e
 refine ⟨L',{ X with rv:=fun k=>if k=i then rv else X.rv k,sv:=fun k=>if k=i then sv else X.sv k,bv:=fun k=>if k=i then bv else X.bv k },h.aIJ hO ⟨rfl,rfl,rfl,rfl,rfl,rfl⟩ d (fun k hk=>?_) ?_ (fun k u hk=>?_),⟨rfl,rfl,rfl,rfl,rfl,rfl⟩,d,fun k hk=>(h0 k hk).imp id (fun e=>e.1)⟩
 ·rcases h0 k hk with e|e
  ·exact Nat.lt_of_lt_of_le (h.lt k e) hO.size
  exact Nat.lt_of_lt_of_le e.2 hO.size
 ·obtain ⟨T,cs,hr,hc⟩:=h.aNR hi (oI (some t) rv sv bv);refine ⟨T,cs,hr,fun i' h5 j hj=>?_⟩;rw [hc i' h5 j hj]
  by_cases e:i'=i
  ·subst e;rw [if_pos rfl,aZ];simp only [if_true]
  have:(i':Int)≠(i:Int):=by omega
  rw [if_neg e,bD _ _ this];simp only [if_neg this]
 show GTh _ L' k (if k=i then rv else X.rv k) (if k=i then sv else X.sv k) (if k=i then bv else X.bv k) u;rcases aW hk with ⟨rfl,rfl⟩|⟨e,h6⟩
 ·rw [if_pos rfl,if_pos rfl,if_pos rfl];refine ⟨(h1.base (Nat.zero_le _)).dB hO (fun g y=>h4 g (h1.own g y).1),fun g y=>?_,(h2.base (Nat.zero_le _)).dB hO (fun g y=>h4 g (h2.own g y).1),fun g y=>?_,(h3.base (Nat.zero_le _)).dB hO (fun g y=>h4 g (h3.own g y).1),fun g y=>?_⟩
  ·rw [z];simp [y]
  ·rw [z];simp only;rw [if_neg (fun e=>(d1 g e).1 y),if_pos y]
  rw [z];simp only;rw [if_neg (fun e=>(d1 g e).2 y),if_neg (fun e=>d2 g e y),if_pos y]
 rw [if_neg e,if_neg e,if_neg e];exact ((h.th k u h6).only hO (fun x hx=>⟨(fun e=>by rw [hx] at e;cases e),(fun e=>by rw [hx] at e;cases e),(fun e=>by rw [hx] at e;cases e)⟩)).lab d
theorem bJ.aOs (h:bJ w L hb ⟨P,ob⟩ X) {i:Nat} (hi:i<193) :
  bJ (w.setCells X.og (i*5) [.int .i64 0,.int .i64 0,.slice none 0 0,.slice none 0 0,.slice none 0 0]) L hb ⟨P,eU ob i none⟩ X:=by
 have y:=h.wR [.int .i64 0,.int .i64 0,.slice none 0 0,.slice none 0 0,.slice none 0 0] (i*5);refine h.aIJ y ⟨rfl,rfl,rfl,rfl,rfl,rfl⟩ (fun _ _=>rfl) (fun k hk=>Nat.lt_of_lt_of_le (h.lt k hk) y.size) ?_ (fun k u hk=>?_)
 ·obtain ⟨T,cs,hr,hc⟩:=h.aNR hi (oI none (.slice none 0 0) (.slice none 0 0) (.slice none 0 0));refine ⟨T,cs,hr,fun d h0 j z=>?_⟩;rw [hc d h0 j z]
  by_cases e:d=i
  ·subst e;rw [if_pos rfl,aZ]
   match j,z with
   | 0,_=>rfl
   | 1,_=>rfl
   | 2,_=>rfl
   | 3,_=>rfl
   | 4,_=>rfl
   | j+5,z=>omega
  have:(d:Int)≠(i:Int):=by omega
  rw [if_neg e,bD _ _ this]
 by_cases e:k=i
 ·rw [e,aZ] at hk;cases hk
 rw [bD _ _ e] at hk;exact (h.th k u hk).only y (fun x hx=>⟨(fun e=>by rw [hx] at e;cases e),(fun e=>by rw [hx] at e;cases e),(fun e=>by rw [hx] at e;cases e)⟩)
theorem bJ.aII (h:bJ w L hb ⟨P,ob⟩ X) {x:Int} {o o':Th} (ho:ob x=some o) {ℓ:Gb} (hP:aI (fun k=>L k=some ℓ) w w') (hℓ:ℓ=.sl x\/ℓ=.bl x) (e1:o'.kind=o.kind) (e2:o'.cls=o.cls)
  (h2:GTh w' L x (X.rv x) (X.sv x) (X.bv x) o'):bJ w' L hb ⟨P,eU ob x (some o')⟩ X:=by
 have z:∀ k d,d≠ℓ->L k=some ℓ->L k≠some d:=fun k d h1 hk e=>by rw [hk] at e;cases e;exact h1 rfl
 have n0:∀ d,(∀ y,d≠.sl y)->(∀ y,d≠.bl y)->d≠ℓ:=fun d a b e=>by rcases hℓ with h|h<;>rw [h] at e;exact a x e;exact b x e
 have n1:∀ d,d=Gb.mem\/d=.pq\/d=.pk\/d=.pc\/d=.pl\/d=.objs->d≠ℓ:=fun d hc=>n0 d (fun y e=>by rcases hc with h|h|h|h|h|h<;>rw [h] at e<;>cases e) (fun y e=>by rcases hc with h|h|h|h|h|h<;>rw [h] at e<;>cases e)
 obtain ⟨T1,m1⟩:=h.mem;obtain ⟨T2,cs,m2,n2⟩:=h.ob;refine ⟨fun k hk=>Nat.lt_of_lt_of_le (h.lt k hk) hP.size,⟨T1,hP.row m1 (fun y=>z _ .mem (n1 _ (by simp)) y h.Lm)⟩,h.Lm,h.pool.dB hP (fun y=>z _ .pq (n1 _ (by simp)) y h.Lq) (fun y=>z _ .pk (n1 _ (by simp)) y h.Lk) (fun y=>z _ .pc (n1 _ (by simp)) y h.Lc) (fun y=>z _ .pl (n1 _ (by simp)) y h.Ll),h.Lq,h.Lk,h.Lc,h.Ll,
  ⟨T2,cs,hP.row m2 (fun y=>z _ .objs (n1 _ (by simp)) y h.Lo),fun i hi j hj=>?_⟩,h.Lo,fun k t hk=>?_⟩
 ·rw [n2 i hi j hj];show some (oI (ob (i:Int)) _ _ _ j)=some (oI (eU ob x (some o') (i:Int)) _ _ _ j)
  by_cases e:(i:Int)=x
  ·rw [e,aZ,ho]
   match j,hj with
   | 0,_=>show some (Value.int .i64 o.kind)=some (Value.int .i64 o'.kind);rw [e1]
   | 1,_=>show some (Value.int .i64 o.cls)=some (Value.int .i64 o'.cls);rw [e2]
   | 2,_=>rfl
   | 3,_=>rfl
   | 4,_=>rfl
   | j+5,hj=>omega
  rw [bD _ _ e]
 rcases aW hk with ⟨rfl,rfl⟩|⟨e,h0⟩
 ·exact h2
 exact (h.th k t h0).only hP (fun y hy=>⟨z y _ (n0 _ (fun _ e=>by cases e) (fun _ e=>by cases e)) hy,z y _ (fun e2=>by rcases hℓ with h|h<;>rw [h] at e2<;>cases e2;exact e rfl) hy,z y _ (fun e2=>by rcases hℓ with h|h<;>rw [h] at e2<;>cases e2;exact e rfl) hy⟩)
theorem bJ.setSlot (h:bJ w L hb ⟨P,ob⟩ X) {x:Int} {o:Th} (ho:ob x=some o) {g n cap:Nat} (hv:X.sv x=.slice (some ⟨g,0,none⟩) n cap) (s:Nat) (y:Int):bJ (w.setCell ⟨g,s,none⟩ (.int .i64 y)) L hb ⟨P,eU ob x (some (o.put s y))⟩ X:=by
 have k:=h.th x o ho;have h0:L g=some (.sl x):=k.Ls g (by rw [hv];rfl);have hP:aI (fun j=>L j=some (.sl x)) w (w.setCell ⟨g,s,none⟩ (.int .i64 y)):=(aI.refl _ w).set (.inl h0) _;have e:∀ (z:Nat) ℓ',ℓ'≠.sl x->L z=some ℓ'->¬ L z=some (.sl x):=fun z ℓ' h1 h2 h3=>by rw [h2] at h3;cases h3;exact h1 rfl
 refine h.aII (o':=o.put s y) ho hP (.inl rfl) rfl rfl ⟨k.rb.dB hP (fun z d=>e z _ (by simp) (k.Lr z d)),k.Lr,?_,k.Ls,k.bl.dB hP (fun z d=>e z _ (by simp) (k.Lb z d)),k.Lb⟩;have h2:=k.sl;rw [hv] at h2 ⊢;exact h2.setAt s y
theorem bJ.setBlock (h:bJ w L hb ⟨P,ob⟩ X) {x:Int} {o:Th} (ho:ob x=some o) {g n cap:Nat} (hv:X.bv x=.slice (some ⟨g,0,none⟩) n cap) (s:Nat) (y:Int):bJ (w.setCell ⟨g,s,none⟩ (.int .i64 y)) L hb ⟨P,eU ob x (some (o.moved s y))⟩ X:=by
 have k:=h.th x o ho;have h0:L g=some (.bl x):=k.Lb g (by rw [hv];rfl);have hP:aI (fun j=>L j=some (.bl x)) w (w.setCell ⟨g,s,none⟩ (.int .i64 y)):=(aI.refl _ w).set (.inl h0) _;have e:∀ (z:Nat) ℓ',ℓ'≠.bl x->L z=some ℓ'->¬ L z=some (.bl x):=fun z ℓ' h1 h2 h3=>by rw [h2] at h3;cases h3;exact h1 rfl
 refine h.aII (o':=o.moved s y) ho hP (.inr rfl) rfl rfl ⟨k.rb.dB hP (fun z d=>e z _ (by simp) (k.Lr z d)),k.Lr,k.sl.dB hP (fun z d=>e z _ (by simp) (k.Ls z d)),k.Ls,?_,k.Lb⟩;have h2:=k.bl;rw [hv] at h2 ⊢;exact h2.setAt s y
theorem bJ.aOM (h:bJ w L hb ⟨P,ob⟩ X) {q k c l v:Nat} {P':Pl} (hp:fA w q k c l P') (hn:∀ j,v<=j->L j=none) (v1:v<=q) (v2:v<=k) (v3:v<=c) (v4:v<=l) :
  ∃ L' X',bJ (w.setCell ⟨hb,1,none⟩ (.pointer (some ⟨q,0,none⟩))) L' hb ⟨P',ob⟩ X'/\(∀ j,L' j≠none->L j≠none\/v<=j):=by
 obtain ⟨n1,n2,n3,n4,n5,n6⟩:=hp.ne;obtain ⟨_,_,_,_,_,_,_,_,_,f1,f2,f3,f4⟩:=hp.facts;obtain ⟨L',y⟩:∃ L':Nat->Option Gb,L'=fun j=>if j=q then some .pq else if j=k then some .pk else if j=c then some .pc else if j=l then some .pl else L j:=⟨_,rfl⟩;have h4:∀ j,L j≠none->¬ v<=j:=fun j hj e=>hj (hn j e);have z:∀ j,L j≠none->L' j=L j:=fun j hj=>by
  have:=h4 j hj;rw [y];simp only;rw [if_neg (by omega),if_neg (by omega),if_neg (by omega),if_neg (by omega)]
 have h3:∀ j,L' j≠none->L j≠none\/(v<=j/\j<w.heap.size):=fun j hj=>by
  rw [y] at hj;simp only at hj
  by_cases e1:j=q
  ·rw [e1];exact .inr ⟨v1,f1⟩
  rw [if_neg e1] at hj
  by_cases e2:j=k
  ·rw [e2];exact .inr ⟨v2,f2⟩
  rw [if_neg e2] at hj
  by_cases e3:j=c
  ·rw [e3];exact .inr ⟨v3,f3⟩
  rw [if_neg e3] at hj
  by_cases e4:j=l
  ·rw [e4];exact .inr ⟨v4,f4⟩
  rw [if_neg e4] at hj;exact .inl hj
 have hP:aI (fun j=>j=hb) w (w.setCell ⟨hb,1,none⟩ (.pointer (some ⟨q,0,none⟩))):=(aI.refl (fun j=>j=hb) w).set (p:=⟨hb,1,none⟩) (.inl rfl) _;have h5:=h4 hb (by rw [h.Lm];simp);have h0:∀ g ℓ,ℓ≠Gb.mem->L g=some ℓ->¬ g=hb:=fun g ℓ h1 h2 e=>by rw [e,h.Lm] at h2;cases h2;exact h1 rfl
 obtain ⟨T1,m1⟩:=h.mem;obtain ⟨T2,cs,m2,c2⟩:=h.ob;refine ⟨L',{ X with q:=q,k:=k,c:=c,l:=l },⟨fun j hj=>?_,⟨T1,m1.set 1 _⟩,kE z h.Lm,hp.dB hP (by omega) (by omega) (by omega) (by omega),?_,?_,?_,?_,⟨T2,cs,hP.row m2 (h0 _ _ (by simp) h.Lo),c2⟩,kE z h.Lo,fun j t hj=>?_⟩,fun j hj=>(h3 j hj).imp id (fun e=>e.1)⟩
 ·rcases h3 j hj with e|e
  ·exact Nat.lt_of_lt_of_le (h.lt j e) hP.size
  exact Nat.lt_of_lt_of_le e.2 hP.size
 ·rw [y];simp
 ·rw [y];simp [Ne.symm n1]
 ·rw [y];simp [Ne.symm n2,Ne.symm n4]
 ·rw [y];simp [Ne.symm n3,Ne.symm n5,Ne.symm n6]
 have d:=h.th j t hj;exact (GTh.mk (d.rb.dB hP (fun g hg=>h0 g _ (by simp) (d.Lr g hg))) d.Lr (d.sl.dB hP (fun g hg=>h0 g _ (by simp) (d.Ls g hg))) d.Ls (d.bl.dB hP (fun g hg=>h0 g _ (by simp) (d.Lb g hg))) d.Lb).lab z
end
set_option maxHeartbeats 6400000
section
variable {w0:World} {L:Nat->Option Gb} {hb:Nat} {M:Hp} {X:GX}
theorem aMU {wr:World} (h:bJ w0 L hb M X) (hk:M.Ok) {o:Th} (h5:o.ok1) (hz:∀ s,gI o.slots s=0) {rv sv bv:Value} {bs:List Int} {Q:Pl} {i:Nat} (hi:(i:Int)=(M.least:Int)+1) (hl:M.least<192)
  (hs:dH M.P (aT o.slots.length) (aT o.slots.length).length=some (bs,Q)) (hO:aI (fun k=>L k≠none) w0 wr) (hG:bJ wr L hb ⟨Q,M.ob⟩ X) (h6:Bls wr w0.heap.size rv o.refs) (h7:aN wr w0.heap.size sv o.slots) (h3:aN wr w0.heap.size bv bs)
  (d1:∀ g,rv.ownBlock=some g->sv.ownBlock≠some g/\bv.ownBlock≠some g) (d2:∀ g,sv.ownBlock=some g->bv.ownBlock≠some g) :
  Calls prog 214 #[.pointer (some ⟨hb,0,none⟩),.int .i64 i] (wr.setCells X.og (i*5) [.int .i64 o.kind,.int .i64 o.cls,rv,sv,bv]).drew (fun e w'=>e=.returned (.tuple #[])/\
   lW w0 L hb (.tuple #[.int .i64 (M.add o).1,.int .i64 (M.add o).2.1]) (M.add o).2.2 (.returned (.tuple #[.int .i64 i,.int .i64 0])) w'):=by
 have h0:i<193:=by omega
 have hn:∀ k,w0.heap.size<=k->L k=none:=fun k hk=>by
  cases e:L k with
  | none=>rfl
  | some ℓ=>have:=h.lt k (by rw [e];simp);omega
 have h2:=hG.wR [.int .i64 o.kind,.int .i64 o.cls,rv,sv,bv] (i*5);obtain ⟨L',X',q1,_,q3,q4⟩:=hG.setObj h0 { o with blocks:=bs } h6 h7 h3 hn d1 d2;have y:=hk.add h5 hz;have z:=aGt (o:=o) hl hs;rw [z] at y;have d:eU M.ob ((M.least:Int)+1) (some { o with blocks:=bs }) ((M.least:Int)+1)=some { o with blocks:=bs }:=aZ _ _ _;have h1:=y.aOS (o:={ o with blocks:=bs }) (M:=M);rw [<-hi] at y d h1;have h4:=y.aMB d;have hQ:Q.ok:=(eF hk.p (l:=aT o.slots.length) (fun m hm=>dP _ hm) _ (Nat.le_refl _) bs Q hs).ok;refine (aBZ _ q1.drew hQ h0 d h4).mono ?_;rintro e w' ⟨rfl,hg,ho⟩;refine ⟨rfl,?_⟩;rw [z,<-hi];rw [h1] at hg;refine ⟨rfl,L',X',hg,q4,((hO.trans h2 (fun x hx=>.inl (by rw [hx];simp))).drew).trans ho (fun x hx=>?_)⟩;exact q4 x (fun e=>by rw [e] at hx;rcases hx with h|h|h|h<;>cases h)
theorem aDI (w:World) (h:bJ w0 L hb M X) (hk:M.Ok) (hw:Only [] w0 w) (o:Th) (ho:o.ok1) (hz:∀ s,gI o.slots s=0) (rv sv:Value) (d8:Bls w w0.heap.size rv o.refs) (e6:aN w w0.heap.size sv o.slots)
  (hd:∀ g,rv.ownBlock=some g->sv.ownBlock≠some g) (a:Bool) (ha:a=false->o.slots.length<=7) :
  Calls prog 211 #[.pointer (some ⟨hb,0,none⟩),.agg #[.int .i64 o.kind,.int .i64 o.cls,rv,sv,.slice none 0 0],.bool a] w
   (lW w0 L hb (.tuple #[.int .i64 (M.add o).1,.int .i64 (M.add o).2.1]) (M.add o).2.2):=by
 refine aF fun R hR=>?_;obtain ⟨ra,rc,j0⟩:=d8.len;obtain ⟨sa,sc,j2⟩:=e6.len;have b6:=ho.le;obtain ⟨rn,j1⟩:∃ b,b=o.refs.length:=⟨_,rfl⟩;obtain ⟨n,hn⟩:∃ b,b=o.slots.length:=⟨_,rfl⟩;obtain ⟨kd,d4⟩:∃ b,b=o.kind:=⟨_,rfl⟩;obtain ⟨cl,d0⟩:∃ b,b=o.cls:=⟨_,rfl⟩;rw [<-j1] at j0;rw [<-hn] at j2;subst j0 j2;rw [<-d4,<-d0];have b1:=aA d8;have b4:=aA e6;have HD:=aA hd;have H:=aA h;have OK:=aA hk;have HW:=aA hw;have HN:=aA hn;have j7:=aA d4;have j5:=aA d0;have l0:=aA ho;have HZ:=aA hz;rw [<-hn] at b6 ha;have HA:=aA ha;have z1:Hid (Only [] w0 (w.alloc (.cells #[.int .i64 kd,.int .i64 cl,.slice ra rn rc,.slice sa n sc,.slice none 0 0] 217))):=hw.alloc _;have qR:Hid (Row (w.alloc (.cells #[.int .i64 kd,.int .i64 cl,.slice ra rn rc,.slice sa n sc,.slice none 0 0] 217)) w.heap.size 217 [.int .i64 kd,.int .i64 cl,.slice ra rn rc,.slice sa n sc,.slice none 0 0]):=Row.new w _ [_,_,_,_,_];have g6:Hid (Bls (w.alloc (.cells #[.int .i64 kd,.int .i64 cl,.slice ra rn rc,.slice sa n sc,.slice none 0 0] 217)) w0.heap.size (.slice ra rn rc) o.refs):=b1.o.alloc _;have i0:Hid (aN (w.alloc (.cells #[.int .i64 kd,.int .i64 cl,.slice ra rn rc,.slice sa n sc,.slice none 0 0] 217)) w0.heap.size (.slice sa n sc) o.slots):=b4.o.alloc _;have b0:Hid (∀ g,(Value.slice ra rn rc).ownBlock=some g->w0.heap.size<=g/\g<w.heap.size):=fun g hg=>b1.o.own g hg;have b2:Hid (∀ g,(Value.slice sa n sc).ownBlock=some g->w0.heap.size<=g/\g<w.heap.size):=fun g hg=>b4.o.own g hg;have HX:Hid (w0.heap.size<=w.heap.size):=hw.size;have y9:w.heap.size<(w.alloc (.cells #[.int .i64 kd,.int .i64 cl,.slice ra rn rc,.slice sa n sc,.slice none 0 0] 217)).heap.size:=by simp
 clear h hk hw d8 e6 hd ho hz ha hn d4 d0 j1;go_in;go_wp2_with fail;generalize (w.alloc (.cells #[.int .i64 kd,.int .i64 cl,.slice ra rn rc,.slice sa n sc,.slice none 0 0] 217))=w1 at*;obtain ⟨y,hy⟩:∃ b,b=w.heap.size:=⟨_,rfl⟩;rw [<-hy] at qR b0 b2 HX y9 ⊢;clear hy b1 b4 HW;have k6:=aA y9;clear y9;have x9:=aA (H.o.aK z1.o);have c0:=x9.o.cells.1;obtain ⟨og,d5⟩:∃ z,z=X.og:=⟨_,rfl⟩;rw [<-d5] at c0;have z3:=aA d5;clear d5;go_loopw [8] (fun iv wr=>∃ k:Nat,k<=192/\iv=.int .i64 ((k:Int)+1)/\w1=wr/\Hid (∀ j:Nat,j<k->M.ob ((j:Int)+1)≠none)) (fun iv _=>193 - (intOf iv).toNat)
 case atStart=>exact ⟨0,by omega,rfl,rfl,fun j hj=>by omega⟩
 case round=>
  obtain ⟨k,hk,rfl,rfl,HF⟩:=hrel
  by_cases z7:k<192
  ·have h7:(k:Int)+1<193:=by omega
   have h6:=aCa w1 x9.o (M:=M) OK.o ((k:Int)+1)
   cases x1:M.ob ((k:Int)+1) with
   | some o'=>
    rw [x1] at h6;replace h6:Calls prog _ _ w1 (aO w1 (.bool true)):=h6;have z2:=aA x1;clear x1;obtain ⟨z,hz⟩:∃ z:Int,z=(k:Int)+1:=⟨_,rfl⟩;have HZ:=aA hz;rw [<-hz] at h7 h6 ⊢;have m2:0<=z:=by omega
    clear hz;go_wp2_with fail;go_fit h6;rintro e _ ⟨rfl,rfl⟩;go_wp2;refine ⟨⟨k+1,by omega,by have:=HZ.o;go_num,by trivial,fun j hj=>?_⟩,by have:=HZ.o;simp [intOf];omega⟩
    by_cases e:j=k
    ·rw [e,z2.o];simp
    exact HF.o j (by omega)
   | none=>
    rw [x1] at h6;replace h6:Calls prog _ _ w1 (aO w1 (.bool false)):=h6;have z2:=aA x1;have a7:Hid (True->M.least=k):=fun _=>aAX z7 HF.o z2.o;have d1:decide ((193:Int)<=(k:Int)+1)=false:=by simp;omega
    have g3:=aA (nS w1 X.q X.k X.c X.l M.P x9.o.pool);have c1:=x9.o.cells.2.1;obtain ⟨i,hi⟩:∃ z,z=k+1:=⟨_,rfl⟩;have d2:((k:Int)+1)=(i:Int):=by omega
    have e8:Hid (True->(i:Int)=(M.least:Int)+1):=fun _=>by rw [a7.o trivial];exact d2.symm
    have e9:Hid (True->M.least<192):=fun _=>by rw [a7.o trivial];exact z7
    have l7:(i:Int)<193:=by omega
    have l8:(0:Int)<=(i:Int):=by omega
    rw [d2] at d1 h7 h6 ⊢;clear x1 HF d2 hi z7 a7 z2 hk;go_wp2_with fail;go_fit h6;rintro e _ ⟨rfl,rfl⟩;clear h6 h7;go_wp2_with fail;go_fit g3.o;rintro e w2 ⟨q',k',c',l',rfl,d6,y8,u1,u2,u3,u4⟩;have f5:Hid (Only [] w0 w2):=z1.o.trans y8 (by simp);have b5:=aA (y8.row qR.o (by simp));have d3:w2.cell? ⟨y,3,none⟩=some (.slice sa n sc):=b5.o.cell 3 rfl;obtain ⟨_,_,_,_,_,_,_,_,_,v1,v2,v3,v4⟩:=d6.facts;have d:Hid (y<q'/\y<k'/\y<c'/\y<l'/\q'<w2.heap.size/\k'<w2.heap.size/\c'<w2.heap.size/\l'<w2.heap.size):=by
     have:=k6.o;refine ⟨?_,?_,?_,?_,?_,?_,?_,?_⟩<;>omega
    have f8:=aA d6;have g5:=aA (g6.o.only y8 (by simp));have g9:=aA (i0.o.only y8 (by simp));have g7:=aA (aHL w2 n b6 a HA.o);clear g3 z1 qR g6 i0 d6 y8 u1 u2 u3 u4 v1 v2 v3 v4 c0 c1 x9;go_wp2_with fail;go_fit g7.o;rintro e w3 ⟨v7,rfl,b8,x3⟩;have f7:Hid (Only [] w0 w3):=f5.o.trans x3 (by simp);have g2:=aA (x3.row b5.o (by simp));have j9:=aA (f8.o.only x3 (by simp) (by simp) (by simp) (by simp));have k4:=aA (g5.o.only x3 (by simp));have k7:=aA (g9.o.only x3 (by simp));obtain ⟨g,gc,l6,i5,i6⟩:∃ g gc,v7=.slice (some ⟨g,0,none⟩) (aT n).length gc/\w2.heap.size<=g/\g<w3.heap.size:=by
     rcases b8.form with ⟨_,e⟩|⟨g,sc,e1,e2,e3,e4,_⟩
     ·have:=kC n;rw [e] at this;simp at this
     exact ⟨g,sc,e1,e2,e3⟩
    subst l6;have l4:=kC n;have l5:=wU n b6;obtain ⟨sn,d9⟩:∃ z,z=(aT n).length:=⟨_,rfl⟩;have g8:=aA b8;rw [<-d9] at l4 l5 g8 ⊢;have z4:=aA d9;have x6:Hid (w2.heap.size<=g/\g<w3.heap.size/\w2.heap.size<=w3.heap.size):=⟨i5,i6,x3.size⟩;obtain ⟨b3,i3⟩:∃ z,z=w3.heap.size:=⟨_,rfl⟩;have x8:=aA i3;clear g7 d9 b8 x3 f5 b5 f8 g5 g9 d3 i5 i6 i3;have g0:=aA (H.o.aK f7.o).pool;have h4:Hid (∀ z,w0.heap.size<=z->z≠X.k/\z≠X.c/\z≠X.l/\z≠X.q):=fun z hz=>by
     have a1:=H.o.lt X.k (by rw [H.o.Lk];simp);have a2:=H.o.lt X.c (by rw [H.o.Lc];simp);have a3:=H.o.lt X.l (by rw [H.o.Ll];simp);have a4:=H.o.lt X.q (by rw [H.o.Lq];simp);refine ⟨?_,?_,?_,?_⟩<;>omega
    go_wp2;go_loopw [11] (fun iv wr=>∃ (m:Nat) (bs:List Int) (Q:Pl) (bv:Value),m<=sn/\iv=.int .i64 m/\Hid (True->dH M.P (aT n) m=some (bs,Q))/\fA wr X.q X.k X.c X.l Q/\aN wr b3 bv bs/\Row wr y 217 [.int .i64 kd,.int .i64 cl,.slice ra rn rc,.slice sa n sc,bv]/\Only [X.k,X.c,X.l,y] w3 wr) (fun iv _=>sn - (intOf iv).toNat)
    case atStart=>exact ⟨0,[],M.P,.slice none 0 0,by omega,rfl,fun _=>rfl,g0.o,aN.nil _ _,g2.o,Only.refl _ _⟩
    case round=>
     clear g2 g0;obtain ⟨m,bs,Q,bv,hm,rfl,x7,hp,c9,a6,ho⟩:=hrel;have e5:=eF OK.o.p (l:=aT n) (fun m hm=>dP _ hm) m (by have:=z4.o;omega) bs Q (x7.o trivial);have c8:=e5.len;obtain ⟨ba,bc,i4⟩:=c9.len;rw [c8] at i4;subst i4;have k9:=aA e5.ok;have j4:=aA c8;have HP:=aA hp;have x5:=aA c9;have oM:=aA a6;have HO:=aA ho;have c7:aI (fun k=>kR (L k)) w0 wr:=(f7.o.vU).trans (ho.toP (S:=fun k=>k=X.k\/k=X.c\/k=X.l\/k=y) (fun x hx=>.inl (by simpa using hx))) (fun x hx=>by
      rcases hx with rfl|rfl|rfl|rfl
      ·exact .inl (.inr (.inl H.o.Lk))
      ·exact .inl (.inr (.inr (.inl H.o.Lc)))
      ·exact .inl (.inr (.inr (.inr H.o.Ll)))
      exact .inr HX.o)
     have h3:Hid (bJ wr L hb ⟨Q,M.ob⟩ X):=bJ.aCV (P:=M.P) (ob:=M.ob) H.o c7 hp;have a9:Hid (aI (fun k=>L k≠none) w0 wr):=c7.mono (fun x hx=>.inl (fun e=>by rw [e] at hx;rcases hx with h|h|h|h<;>cases h))
     clear hp c9 a6 ho c8 e5 c7
     by_cases l9:m<sn
     ·have h7:(m:Int)<sn:=by omega
      have m0:(0:Int)<=m:=by omega
      have z6:wr.drew.cell? ⟨g,m,none⟩=some (.int .i64 (gI (aT n) m)):=by
       rcases (g8.o.only HO.o (fun g' h0=>by
        cases h0
        have:=h4.o g (by have:=HX.o;have:=d.o;have:=x6.o;omega);have:=d.o;have:=x6.o;simp;omega)).form with ⟨e,_⟩|⟨g',c',e1,_,_,_,h5⟩
       ·cases e
       cases e1;exact h5 m (by have:=z4.o;omega)
      have e1:wr.drew.cell? ⟨hb,1,none⟩=some (.pointer (some ⟨X.q,0,none⟩)):=h3.o.cells.2.1;have z0:=aA (aGW wr.drew X.q X.k X.c X.l Q (HP.o.only ((Only.refl [] wr).drew) (by simp) (by simp) (by simp) (by simp)) k9.o (gI (aT n) m));obtain ⟨c,hc⟩:∃ z,z=gI (aT n) m:=⟨_,rfl⟩;rw [<-hc] at z6 z0;obtain ⟨r,hr⟩:∃ z,z=Q.alloc c:=⟨_,rfl⟩;rw [<-hr] at z0;have HR:=aA hr;have HC:=aA hc;obtain ⟨a1,er,Q1⟩:=r;have n1:hb∉[X.k,X.c,X.l]:=bJ.notP (P:=M.P) (ob:=M.ob) H.o H.o.Lm (by simp) (by simp) (by simp) (by simp);have ng:g∉[X.k,X.c,X.l]:=by
       have:=h4.o g (by have:=HX.o;have:=d.o;have:=x6.o;omega);simp;omega
      clear hr hc;go_wp2;go_region_held3 (fun w'=>w'.cell? ⟨hb,1,none⟩=some (.pointer (some ⟨X.q,0,none⟩))/\w'.cell? ⟨g,m,none⟩=some (.int .i64 c))
       (first|(exact ⟨e1,z6⟩)|(exact ⟨x2.cell e1 n1,x2.cell z6 ng⟩))
       (first
        | (go_at_call 243;go_fit z0.o;rintro e w5 ⟨rfl,d7,x2⟩))
      have f9:Hid (fA w5 X.q X.k X.c X.l Q1):=d7;have b9:Only [X.k,X.c,X.l,y] w3 w5:=HO.o.drew.trans x2 (fun x hx=>.inl (by simp at hx;rcases hx with h|h|h<;>simp [h]))
      have a8:=aA b9;have a5:=h4.o y HX.o;have kN:Hid (Row w5 y 217 [.int .i64 kd,.int .i64 cl,.slice ra rn rc,.slice sa n sc,.slice ba m bc]):=x2.row (show Row wr.drew y _ _ from oM.o) (by simp;omega);have vP:Hid (aN w5 b3 (.slice ba m bc) bs):=(show aN wr.drew b3 (.slice ba m bc) bs from x5.o).only x2 (fun g' h0=>by
       have h1:=(x5.o.own g' h0).1;have h2:=h4.o g' (by have:=x8.o;have:=HX.o;have:=d.o;have:=x6.o;omega);simp;omega)
      have z5:Hid (bJ w5 L hb ⟨Q1,M.ob⟩ X):=h3.o.drew.gK x2 d7;have i2:Hid (aI (fun k=>L k≠none) w0 w5):=a9.o.drew.trans (h3.o.drew.aCW x2) (fun x hx=>.inl (fun e=>by rw [e] at hx;rcases hx with h|h|h|h<;>cases h))
      have i1:Hid (fA w5 q' k' c' l' M.P):=(j9.o.only b9 (by
        have:=h4.o q' (by have:=HX.o;have:=d.o;omega);have:=d.o;simp;omega) (by
        have:=h4.o k' (by have:=HX.o;have:=d.o;omega);have:=d.o;simp;omega) (by
        have:=h4.o c' (by have:=HX.o;have:=d.o;omega);have:=d.o;simp;omega) (by
        have:=h4.o l' (by have:=HX.o;have:=d.o;omega);have:=d.o;simp;omega))
      clear z0 d7 x2 b9 z6 e1 n1 ng oM x5 HO HP h3 a9
      by_cases he:er=0
      ·subst he;have c4:w5.cell? ⟨y,4,none⟩=_:=kN.o.cell 4 rfl;clear a5;go_wp2_with (at_builtin;refine bH rfl _ _ rfl b3 _ _ rfl (vP.o.alloc _) w5.heap.size a1 rfl ?c1 ?c2 ?c3 ?c4)
       case c1=>exact (Row.new w5 _ [_]).cell 0 rfl
       case c2=>have:=j4.o;omega
       case c3=>have:=a8.o.size;have:=x8.o;simp;omega
       case c4=>
        intro v' w6 a0 z8 l3;obtain ⟨h8,h9,j3⟩:=a0.len;obtain ⟨nb,i8⟩:∃ z,z=(bs ++ [a1]).length:=⟨_,rfl⟩;rw [<-i8] at j3;subst j3;clear i8 l3;have x4:∀ x∈(Value.slice ba m bc).ownBlock.toList,b3<=x:=fun x hx=>(vP.o.own x (by simpa using hx)).1;have e7:y<b3:=by have:=x8.o;have:=d.o;have:=x6.o;omega
        have i9:∀ x,x=X.k\/x=X.c\/x=X.l\/x=X.q->x<b3:=fun x hx=>by
         have m1:w0.heap.size<=b3:=by have:=HX.o;omega
         rcases hx with rfl|rfl|rfl|rfl
         ·have:=H.o.lt X.k (by rw [H.o.Lk];simp);omega
         ·have:=H.o.lt X.c (by rw [H.o.Lc];simp);omega
         ·have:=H.o.lt X.l (by rw [H.o.Ll];simp);omega
         have:=H.o.lt X.q (by rw [H.o.Lq];simp);omega
        have z9:=z8.row (kN.o.alloc (.cells #[.int .i64 a1] 3)) (fun hx=>by have:=x4 _ hx;omega);have f6:=z9.free 4;have c6:w6.cell? ⟨y,4,none⟩=_:=z9.cell 4 rfl;have y7:∀ x,x=X.k\/x=X.c\/x=X.l\/x=X.q->x∉(Value.slice ba m bc).ownBlock.toList:=fun x hx hm'=>by have:=x4 _ hm';have:=i9 x hx;omega
        have y5:∀ x,x=X.k\/x=X.c\/x=X.l\/x=X.q->x∉[y]:=fun x hx=>by
         have h1:=h4.o y HX.o;rcases hx with rfl|rfl|rfl|rfl<;>(simp;omega)
        have k1:Hid (fA (w6.setCell ⟨y,4,none⟩ (.slice h8 nb h9)) X.q X.k X.c X.l Q1):=
         (((f9.o.only ((Only.refl [] w5).alloc (.cells #[.int .i64 a1] 3)) (by simp) (by simp) (by simp) (by simp)).only z8 (y7 _ (by simp)) (y7 _ (by simp)) (y7 _ (by simp)) (y7 _ (by simp))).only ((Only.refl [y] w6).set (p:=⟨y,4,none⟩) (.inl (by simp)) (.slice h8 nb h9)) (y5 _ (by simp)) (y5 _ (by simp)) (y5 _ (by simp)) (y5 _ (by simp)))
        have k2:Hid (aN (w6.setCell ⟨y,4,none⟩ (.slice h8 nb h9)) b3 (.slice h8 nb h9) (bs ++ [a1])):=a0.only ((Only.refl [y] w6).set (p:=⟨y,4,none⟩) (.inl (by simp)) (.slice h8 nb h9)) (fun g' h0=>by have:=(a0.own g' h0).1;simp;omega);have k3:Hid (Row (w6.setCell ⟨y,4,none⟩ (.slice h8 nb h9)) y 217 [.int .i64 kd,.int .i64 cl,.slice ra rn rc,.slice sa n sc,(.slice h8 nb h9)]):=z9.set 4 (.slice h8 nb h9);have j8:Hid (Only [X.k,X.c,X.l,y] w3 (w6.setCell ⟨y,4,none⟩ (.slice h8 nb h9))):=((a8.o.alloc _).trans z8 (fun x hx=>.inr (by have:=x4 _ hx;have:=x8.o;omega))).set (.inl (by simp)) _;have k5:Hid (True->dH M.P (aT n) (m+1)=some (bs ++ [a1],Q1)):=fun _=>by
         rw [jA (x7.o trivial),<-HC.o,<-HR.o];rfl
        clear a0 z8 x4 e7 i9 z9 y7 y5 f9 a8 kN vP c4 x7 z5 i2 i1;go_wp2;exact ⟨⟨m+1,bs ++ [a1],Q1,(.slice h8 nb h9),by omega,by go_num,k5,k1.o,k2.o,k3.o,j8.o⟩,by simp [intOf];omega⟩
      have b7:Hid (True->M.add o=(0,14,M)):=fun _=>aCo (k:=m+1) (by rw [<-HN.o,<-z4.o];omega) (by
       rw [<-HN.o,jA (x7.o trivial),<-HC.o,<-HR.o];show (if er=0 then _ else _)=_;rw [if_neg he])
      have i7:∀ k,w0.heap.size<=k->L k=none:=fun k hk=>by
       cases e:L k with
       | none=>rfl
       | some ℓ=>have:=H.o.lt k (by rw [e];simp);omega
      obtain ⟨L9,X9,q1,q2⟩:=z5.o.aOM i1.o i7 (by have:=HX.o;have:=d.o;omega) (by have:=HX.o;have:=d.o;omega) (by have:=HX.o;have:=d.o;omega) (by have:=HX.o;have:=d.o;omega);have j6:Hid (lW w0 L hb (.tuple #[.int .i64 0,.int .i64 14]) M (.returned (.tuple #[.int .i64 0,.int .i64 14])) (w5.setCell ⟨hb,1,none⟩ (.pointer (some ⟨q',0,none⟩)))):=
       lW.of (i2.o.set (p:=⟨hb,1,none⟩) (.inl (by show L hb≠none;rw [H.o.Lm];simp)) _) q1 q2
      have e1:w5.cell? ⟨hb,1,none⟩=some (.pointer (some ⟨X.q,0,none⟩)):=z5.o.cells.2.1;have ef:=z5.o.cells.2.2.1 1;clear i7 q1 q2 a5;go_wp2;refine hR.o _ _ ?_;rw [b7.o trivial];exact j6.o
     obtain rfl:m=sn:=by omega
     have h7:¬ (m:Int)<(m:Int):=by omega
     obtain ⟨m3,k8⟩:∃ z,z=X.og:=⟨_,rfl⟩;have e0:wr.cell? ⟨hb,0,none⟩=some (.slice (some ⟨og,0,none⟩) 193 X.oc):=by rw [z3.o];exact h3.o.cells.1
     have ef:∀ j,wr.frozen? ⟨og,j,none⟩=false:=by rw [z3.o];exact h3.o.cells.2.2.2
     have y6:i<193:=by omega
     have x1:M.ob (i:Int)=none:=by rw [e8.o trivial];exact M.pF (e9.o trivial)
     have o0:=h3.o.obj y6 (j:=0) (by omega);have o1:=h3.o.obj y6 (j:=1) (by omega);have o2:=h3.o.obj y6 (j:=2) (by omega);have o3:=h3.o.obj y6 (j:=3) (by omega);have o4:=h3.o.obj y6 (j:=4) (by omega);rw [show (⟨Q,M.ob⟩:Hp).ob (i:Int)=none from x1,<-z3.o] at o0 o1 o2 o3 o4;replace o0:wr.cell? ⟨og,i*5,none⟩=some (.int .i64 0):=o0;replace o1:wr.cell? ⟨og,i*5+1,none⟩=some (.int .i64 0):=o1;replace o2:wr.cell? ⟨og,i*5+2,none⟩=some (.slice none 0 0):=o2;replace o3:wr.cell? ⟨og,i*5+3,none⟩=some (.slice none 0 0):=o3;replace o4:wr.cell? ⟨og,i*5+4,none⟩=some (.slice none 0 0):=o4;have f0:=ef (i*5);have f1:=ef (i*5+1);have f2:=ef (i*5+2);have f3:=ef (i*5+3);have f4:=ef (i*5+4);have y0:wr.cell? ⟨y,0,none⟩=_:=oM.o.cell 0 rfl;have y1:wr.cell? ⟨y,1,none⟩=_:=oM.o.cell 1 rfl;have y2:wr.cell? ⟨y,2,none⟩=_:=oM.o.cell 2 rfl;have y3:wr.cell? ⟨y,3,none⟩=_:=oM.o.cell 3 rfl;have y4:wr.cell? ⟨y,4,none⟩=_:=oM.o.cell 4 rfl;have a5:=h4.o y HX.o;have e7:y<b3:=by have:=x8.o;have:=d.o;have:=x6.o;omega
     have c5:∀ g',(w0.heap.size<=g'/\g'<y)->g'∉[X.k,X.c,X.l,y]:=fun g' h0=>by
      have:=h4.o g' h0.1;simp;omega
     have g1:=aA (aMU (o:=o) (rv:=.slice ra rn rc) (sv:=.slice sa n sc) (bv:=.slice ba m bc) (i:=i) H.o OK.o l0.o HZ.o (e8.o trivial) (e9.o trivial) (bs:=bs) (Q:=Q) (by have:=x7.o trivial;rw [<-HN.o,<-z4.o];exact this) a9.o h3.o
      (k4.o.only HO.o (fun g' h0=>c5 g' (b0.o g' h0))) (k7.o.only HO.o (fun g' h0=>c5 g' (b2.o g' h0))) (x5.o.base (by have:=HX.o;omega))
      (fun g' h0=>⟨HD.o g' h0,fun e=>by have:=(x5.o.own g' e).1;have:=(b0.o g' h0).2;omega⟩) (fun g' h0 e=>by have:=(x5.o.own g' e).1;have:=(b2.o g' h0).2;omega))
     rw [<-z3.o,<-j7.o,<-j5.o] at g1;clear a5 e7 c5 x1 ef k8;go_wp2_with fail;go_region;go_wp2_with fail;go_fit g1.o;rintro e w9 ⟨rfl,g4⟩;have l1:=aA g4;clear g4;go_wp2;exact hR.o _ _ l1.o
  have h7:¬ (k:Int)+1<193:=by omega
  have d1:(193:Int)<=(k:Int)+1:=by omega
  have b7:Hid (M.add o=(0,14,M)):=aGu (aAY (fun j hj=>HF.o j (by omega)));obtain ⟨z,hz⟩:∃ z:Int,z=(k:Int)+1:=⟨_,rfl⟩;rw [<-hz] at h7 d1 ⊢;clear hz z7;go_wp2;refine hR.o _ _ ?_;rw [b7.o];exact lW.none0 H.o z1.o
end
theorem aIV {ops:Array Oper} {o:Oper} {ac:Act} {wl:World} {K:Act->World->Prop} {Q:Exit->Act->World->Prop} {E:Prop} (h0:o.guard=none) (s x:Operand)
  (ho:o.op=.call { callee:=.builtin .append,args:=#[s,x],argTypes:=#[50,50] }) (w0:World) (hO:Only [] w0 wl)
  (e:Nat) (hs:ac.eval s=.slice (some ⟨e,0,none⟩) 0 0) (z:Bls wl w0.heap.size (.slice (some ⟨e,0,none⟩) 0 0) []) (ad:Addr) (m c:Nat) (l:List Bool) (hx:ac.eval x=.slice (some ad) m c) (hl:l.length=m) (d:∀ i,i<l.length->w0.cell? (ad.add i)=some (.bool (gB l i))) (hm:0<m) (hb:m<=1000000)
  (h:∀ g cap w',Hid (Bls w' w0.heap.size (.slice (some ⟨g,0,none⟩) m cap) l)->Hid (Only [] w0 w')->Hid (Only [e] wl w')->Hid (g=e\/g=wl.heap.size)->K (ac.put o.dst (.slice (some ⟨g,0,none⟩) m cap)) w') :
  if Region.wanted o (yielded ops ac.tmps)=true then Oper.wp prog o ac wl K Q else E:=by
 obtain ⟨i0,h5,h6,h7,h8⟩:=info_parts wZ;refine step_append_lies (P:=prog) _ h0 s x 50 ho w0.heap.size 4 i0 (.bool false) 1 1 Tryz.underlying50 h5 h6 h7 h8 rfl (by omega) (.slice (some ⟨e,0,none⟩) 0 0) 0 [] hs z ad m c (l.map Value.bool) hx (by simp [hl]) (fun j u hu=>?_) (fun u hu=>?_) hm (by simp only [maxLen];omega) (by omega) hO.size wl.heap.size rfl ?_
 ·simp only [List.getElem?_map,Option.map_eq_some_iff] at hu;obtain ⟨y,hy,rfl⟩:=hu;have hj:=(List.getElem?_eq_some_iff.1 hy).1;have h1:=d j hj;rw [gB,hy] at h1;exact hO.cell h1 (by simp)
 ·simp only [List.mem_map] at hu;obtain ⟨y,_,rfl⟩:=hu;rfl
 intro g cap w' h1 h2 h3 h4;rw [Nat.zero_add] at h1 ⊢;refine h g cap w' ?_ (hO.grown h2 (fun k hk=>.inr (z.own k hk).1)) ((Only.refl [e] wl).grown h2 (fun k hk=>by cases hk;exact .inl (by simp))) ?_
 ·show Bls _ _ _ _;unfold Bls;rw [hl];exact h1
 show _\/_;rcases h3 with h3|h3
 ·cases h3;exact .inl rfl
 exact .inr h3
theorem rC {ops:Array Oper} {o:Oper} {ac:Act} {wl:World} {K:Act->World->Prop} {Q:Exit->Act->World->Prop} {E:Prop} (h3:o.guard=none) (s x:Operand)
  (ho:o.op=.call { callee:=.builtin .append,args:=#[s,x],argTypes:=#[50,50] }) (w0:World) (hO:Only [] w0 wl)
  (z:Nat) (hs:ac.eval s=.slice (some ⟨z,0,none⟩) 0 0) (y:Bls wl w0.heap.size (.slice (some ⟨z,0,none⟩) 0 0) []) (va:Option Addr) (n d:Nat) (l:List Bool) (hx:ac.eval x=.slice va n d) (hl:l.length=n) (hv:aBt w0 (.slice va n d) l) (hb:n<=1000000)
  (h:∀ g cap w',Hid (Bls w' w0.heap.size (.slice (some ⟨g,0,none⟩) n cap) l)->Hid (Only [] w0 w')->Hid (Only [z] wl w')->Hid (g=z\/g=wl.heap.size)->K (ac.put o.dst (.slice (some ⟨g,0,none⟩) n cap)) w') :
  if Region.wanted o (yielded ops ac.tmps)=true then Oper.wp prog o ac wl K Q else E:=by
 by_cases h0:n=0
 ·subst h0;have h4:l=[]:=List.eq_nil_of_length_eq_zero hl;subst h4;have hw:Region.wanted o (yielded ops ac.tmps)=true:=by simp [Region.wanted,h3]
  rw [if_pos hw];obtain ⟨i0,h6,h7,h8,h9⟩:=info_parts wZ;have h5:Src prog i0.size 50 (.slice va 0 d) 0 [] wl:=by
   cases va with
   | none=>exact Src.ofNil wl Tryz.underlying50 d
   | some a=>exact Src.ofSlice wl Tryz.underlying50 a 0 d [] (by simp) (fun j u hu=>by simp at hu) (fun u hu=>by simp at hu)
  have hr:=run_append_nothing (P:=prog) wl 50 50 o.type 4 i0 Tryz.underlying50 h6 (some ⟨z,0,none⟩) 0 0 (Nat.le_refl _) (.slice va 0 d) h5;unfold Oper.wp execOp;simp only [ho,resolve,invoke,builtin,Sem.run_bind,Sem.run_pure,Result.andThen_ok,List.map_toArray,List.map_cons,List.map_nil,hs,hx,hr];exact h z 0 wl y hO (Only.refl _ _) (.inl rfl)
 rcases hv with ⟨_,e⟩|⟨ad,c,h1,h2⟩
 ·rw [e] at hl;simp at hl;omega
 simp only [Value.slice.injEq] at h1;obtain ⟨rfl,_,rfl⟩:=h1;exact aIV h3 s x ho w0 hO z hs y ad n d l hx hl h2 (by omega) hb h
theorem aPr (w:World):Bls (w.alloc (.cells #[] 4)).drew w.heap.size (.slice (some ⟨w.heap.size,0,none⟩) 0 0) []:=Bls.made w
theorem aPq (w:World) (C:Array Value) (T:TypeId):Bls ((w.alloc (.cells #[] 4)).alloc (.cells C T)).drew w.heap.size (.slice (some ⟨w.heap.size,0,none⟩) 0 0) []:=(Bls.made w).alloc _
theorem aPp (w:World) (C:Array Value) (T:TypeId):Bls ((w.alloc (.cells C T)).alloc (.cells #[] 4)).drew w.heap.size (.slice (some ⟨w.heap.size+1,0,none⟩) 0 0) []:=by
 have:=(Bls.made (w.alloc (.cells C T))).base (b:=w.heap.size) (by simp);rw [World.size_alloc] at this;exact this
theorem aOC (w:World) (o:Obj):Only [] w (w.alloc o).drew:=((Only.refl [] w).alloc o).drew
theorem aFO (w:World) (o o':Obj):Only [] w ((w.alloc o).alloc o').drew:=(((Only.refl [] w).alloc o).alloc o').drew
theorem qZ (w:World) (n:Nat) (d:n<=1000000) (C:Array Value) (y:C.toList=List.replicate n (.int .i64 0)):aN (w.alloc (.cells C 3)) w.heap.size (.slice (some ⟨w.heap.size,0,none⟩) n n) (List.replicate n 0):=by
 have z:=Row.new w 3 C.toList;have h:=aN.ofRow (base:=w.heap.size) (cap:=n) (l:=List.replicate n 0) (Nat.le_refl _) z (by rw [y];simp) (by rw [y];simp) (by simp) (by simp only [maxLen];omega);rw [List.length_replicate] at h;exact h
section
variable {L:Nat->Option Gb} {hb:Nat} {M:Hp} {X:GX}
theorem aLv (w:World) (c:Int) (v:Value):Calls prog 143 #[.pointer none,.int .i64 c,v] w (aO w (.tuple #[.int .i64 0,.int .i64 1])):=by
 refine aF fun R z=>?_;have y:=uU w;go_in;go_wp2_with fail;go_fit y;rintro e _ ⟨rfl,rfl⟩;go_wp2;exact z.o _ _ ⟨rfl,rfl⟩
theorem pY (w:World) (h:bJ w L hb M X) (d:M.Ok) (c:Int) (v:Value) (l:List Bool) (hv:aBt w v l) (hl:l.length<=1000000) :
  Calls prog 143 #[.pointer (some ⟨hb,0,none⟩),.int .i64 c,v] w (lW w L hb (.tuple #[.int .i64 (M.aH c l).1,.int .i64 (M.aH c l).2.1]) (M.aH c l).2.2):=by
 refine aF fun R hR=>?_;have h1:=fM w h;obtain ⟨va,vc,rfl⟩:=hv.len;obtain ⟨n,hn⟩:∃ z,z=l.length:=⟨_,rfl⟩
 by_cases hc:c<0\/10<=c\/7<l.length
 ·have h5:Hid (M.aH c l=(0,1,M)):=by show _=_;unfold Hp.aH;rw [if_pos hc]
  have H:=aA h;rw [<-hn] at hc hl ⊢;clear hv h d hn
  by_cases c1:c<0
  ·clear hc;go_in;go_wp2_with fail;go_fit h1;rintro e _ ⟨rfl,rfl⟩;go_wp2;refine hR.o _ _ ?_;rw [h5.o];exact lW.none0 H.o (Only.refl _ _)
  by_cases c2:10<=c
  ·clear hc;go_in;go_wp2_with fail;go_fit h1;rintro e _ ⟨rfl,rfl⟩;go_wp2;refine hR.o _ _ ?_;rw [h5.o];exact lW.none0 H.o (Only.refl _ _)
  have c3:(7:Int)<n:=by omega
  clear hc;go_in;go_wp2_with fail;go_fit h1;rintro e _ ⟨rfl,rfl⟩;go_wp2;refine hR.o _ _ ?_;rw [h5.o];exact lW.none0 H.o (Only.refl _ _)
 have c1:¬ c<0:=by omega
 have c2:¬ 10<=c:=by omega
 have c3:¬ (7:Int)<n:=by omega
 have h6:M.aH c l=M.add (vS c l):=by unfold Hp.aH;rw [if_neg hc]
 have h8:=qF hc;rw [h6] at hR;obtain ⟨i0,x2,x6,h9,x7⟩:=info_parts jO;obtain ⟨C,hC⟩:∃ C:Array Value,C.toList=List.replicate n (.int .i64 0):=⟨(List.replicate n (.int .i64 0)).toArray,by simp⟩;have y2:∀ y,(Instr.makeSlice 23 (.int .i64 (n:Int)) (.int .i64 (n:Int))).run prog y=.ok (.slice (some ⟨y.heap.size,0,none⟩) n n) (y.alloc (.cells C 3)):=fun y=>by
  rw [run_makeSlice (P:=prog) (w:=y) 23 3 i0 _ Tryz.underlying23 x2 x6 .i64 .i64 _ _ (by omega) (by omega) (by rw [h9];omega) (by rw [x7];omega) (by omega),h9];have e:madeCells (Value.int .i64 0).cells (n*1)=C:=by
   rw [<-Array.toList_inj,zA,hC]
  simp only [Int.toNat_natCast];rw [e]
 have vN:Hid (∀ y (rv sv:Value),Only [] w y->Bls y w.heap.size rv l->aN y w.heap.size sv (List.replicate n 0)->(∀ g,rv.ownBlock=some g->sv.ownBlock≠some g)->
   Calls prog 211 #[.pointer (some ⟨hb,0,none⟩),.agg #[.int .i64 2,.int .i64 c,rv,sv,.slice none 0 0],.bool false] y (lW w L hb (.tuple #[.int .i64 (M.add (vS c l)).1,.int .i64 (M.add (vS c l)).2.1]) (M.add (vS c l)).2.2)):=fun y rv sv ho y1 x5 hd=>
  aDI y h d ho (vS c l) h8.1 h8.2 rv sv y1 (by rw [hn] at x5;exact x5) hd false (fun _=>by simp [vS];omega)
 have HC:=aA hC;have h0:n<=1000000:=by omega
 rw [<-hn] at hv hl ⊢;clear h d h8 h6 hc x2 x6 h9 x7 hC hl;obtain ⟨F,hF⟩:∃ F:Ending->World->Prop,F=lW w L hb (.tuple #[.int .i64 (M.add (vS c l)).1,.int .i64 (M.add (vS c l)).2.1]) (M.add (vS c l)).2.2:=⟨_,rfl⟩;rw [<-hF] at vN;replace hR:Hid (∀ e w',F e w'->R e w'):=by rw [hF];exact hR
 have x1:Hid (∀ e w',F e w'->e=.returned (.tuple #[.int .i64 (M.add (vS c l)).1,.int .i64 (M.add (vS c l)).2.1])):=fun e w' he=>by rw [hF] at he;exact he.1
 clear hF;obtain ⟨r0,x3⟩:∃ z,z=(M.add (vS c l)).1:=⟨_,rfl⟩;obtain ⟨r1,x4⟩:∃ z,z=(M.add (vS c l)).2.1:=⟨_,rfl⟩;rw [<-x3,<-x4] at x1;clear x3 x4;have h7:Hid (l.length=n):=hn.symm;have HV:=aA hv;have y0:Hid (∀ g cap y,Hid (Bls y w.heap.size (.slice (some ⟨g,0,none⟩) n cap) l)->Hid (Only [] w y)->
   Calls prog 211 #[.pointer (some ⟨hb,0,none⟩),.agg #[.int .i64 2,.int .i64 c,.slice (some ⟨g,0,none⟩) n cap,.slice (some ⟨y.heap.size,0,none⟩) n n,.slice none 0 0],.bool false] (y.alloc (.cells C 3)) F):=fun g cap y h1 h2=>by
  refine vN.o _ _ _ (h2.o.alloc _) (h1.o.alloc _) ((qZ y n h0 C HC.o).base h2.o.size) (fun k d=>?_)
  cases d
  have:=(h1.o.own g rfl).2;simp [Value.ownBlock];omega
 have x9:Hid (∀ g cap y,Hid (Bls y w.heap.size (.slice (some ⟨g,0,none⟩) n cap) l)->Hid (Only [] w y)->Hid (Only [w.heap.size] ((w.alloc (.cells #[] 4)).alloc (.cells C 3)).drew y)->Hid (g=w.heap.size\/g=((w.alloc (.cells #[] 4)).alloc (.cells C 3)).drew.heap.size)->
   Calls prog 211 #[.pointer (some ⟨hb,0,none⟩),.agg #[.int .i64 2,.int .i64 c,.slice (some ⟨g,0,none⟩) n cap,.slice (some ⟨w.heap.size+1,0,none⟩) n n,.slice none 0 0],.bool false] y F):=fun g cap y h1 h2 h3 h4=>by
  have hz:=qZ (w.alloc (.cells #[] 4)) n h0 C HC.o;rw [World.size_alloc] at hz;refine vN.o _ _ _ h2.o h1.o (((hz.base (b:=w.heap.size) (by omega)).drew).only h3.o (fun k d=>?_)) (fun k d=>?_)
  ·cases d;simp
  cases d
  have:=h4.o;simp [Value.ownBlock] at this ⊢;omega
 have x8:Hid (∀ g cap y,Hid (Bls y w.heap.size (.slice (some ⟨g,0,none⟩) n cap) l)->Hid (Only [] w y)->Hid (Only [w.heap.size+1] ((w.alloc (.cells C 3)).alloc (.cells #[] 4)).drew y)->Hid (g=w.heap.size+1\/g=((w.alloc (.cells C 3)).alloc (.cells #[] 4)).drew.heap.size)->
   Calls prog 211 #[.pointer (some ⟨hb,0,none⟩),.agg #[.int .i64 2,.int .i64 c,.slice (some ⟨g,0,none⟩) n cap,.slice (some ⟨w.heap.size,0,none⟩) n n,.slice none 0 0],.bool false] y F):=fun g cap y h1 h2 h3 h4=>by
  have hz:=((qZ w n h0 C HC.o).alloc (.cells #[] 4)).drew;refine vN.o _ _ _ h2.o h1.o (hz.only h3.o (fun k d=>?_)) (fun k d=>?_)
  ·cases d;simp
  cases d
  have:=h4.o;simp [Value.ownBlock] at this ⊢;omega
 clear hv hn vN;go_in;go_wp2_with fail;go_fit h1;rintro e _ ⟨rfl,rfl⟩;go_wp2_with fail;clear h1;go_region_held3 (fun _=>True)
  (exact trivial)
  (first
   | (refine rC (by rfl) (.tmp 26) (.tmp 27) (by rfl) w (by with_reducible exact aOC w _) w.heap.size (by rfl) (by with_reducible exact aPr w) va n vc l (by rfl) h7.o HV.o h0 ?_;intro g cap w9 k1 k2 k3 k4;have HM:=y0.o g cap w9 k1 k2)
   | (refine rC (by rfl) (.tmp 26) (.tmp 27) (by rfl) w (by with_reducible exact aFO w _ _) w.heap.size (by rfl) (by with_reducible exact aPq w _ _) va n vc l (by rfl) h7.o HV.o h0 ?_;intro g cap w9 k1 k2 k3 k4;have HM:=x9.o g cap w9 k1 k2 k3 k4)
   | (refine rC (by rfl) (.tmp 26) (.tmp 27) (by rfl) w (by with_reducible exact aFO w _ _) (w.heap.size+1) (by rfl) (by with_reducible exact aPp w _ _) va n vc l (by rfl) h7.o HV.o h0 ?_;intro g cap w9 k1 k2 k3 k4;have HM:=x8.o g cap w9 k1 k2 k3 k4)
   | (go_at_call 211;go_fit HM;intro e w9 hf;obtain rfl:=x1.o _ _ hf))
 all_goals
  go_wp2;exact hR.o _ _ hf
end
section
variable {L:Nat->Option Gb} {hb:Nat} {M:Hp} {X:GX}
theorem aMT (w:World) (k c n:Int):Calls prog 174 #[.pointer none,.int .i64 k,.int .i64 c,.int .i64 n] w (aO w (.tuple #[.int .i64 0,.int .i64 1])):=by
 refine aF fun R z=>?_;have y:=uU w;go_in
 by_cases d:k=3
 ·subst d
  by_cases a2:c=0
  ·subst a2;go_wp2_with fail;go_fit y;rintro e _ ⟨rfl,rfl⟩;go_wp2;exact z.o _ _ ⟨rfl,rfl⟩
  go_wp2_with fail;go_fit y;rintro e _ ⟨rfl,rfl⟩;go_wp2;exact z.o _ _ ⟨rfl,rfl⟩
 by_cases a3:k=4
 ·subst a3
  by_cases a4:0<=c
  ·go_wp2_with fail;go_fit y;rintro e _ ⟨rfl,rfl⟩;go_wp2;exact z.o _ _ ⟨rfl,rfl⟩
  go_wp2_with fail;go_fit y;rintro e _ ⟨rfl,rfl⟩;go_wp2;exact z.o _ _ ⟨rfl,rfl⟩
 go_wp2_with fail;go_fit y;rintro e _ ⟨rfl,rfl⟩;go_wp2;exact z.o _ _ ⟨rfl,rfl⟩
theorem pV {α:Type} (n:Nat) (x:α):List.replicate n x ++ [x]=List.replicate (n+1) x:=by
 rw [List.replicate_succ']
theorem aAB (w:World) (h:bJ w L hb M X) (hk:M.Ok) (k c:Int) (n:Nat) (hn:n<=48) (b i:Bool) (y6:(qO k c n).ok1/\∀ s,gI (qO k c n).slots s=0) (y2:decide (k=4)=b)
  (R:Ending->World->Prop) (hR:Hid (∀ e w',lW w L hb (.tuple #[.int .i64 (M.add (qO k c n)).1,.int .i64 (M.add (qO k c n)).2.1]) (M.add (qO k c n)).2.2 e w'->R e w'))
  (y5:Hid ((k=3/\c=0)\/(k=4/\0<=c/\c<10))) :
  Calls prog 174 #[.pointer (some ⟨hb,0,none⟩),.int .i64 k,.int .i64 c,.int .i64 n] w R:=by
 have h1:=fM w h;obtain ⟨i0,z0,z3,y7,z4⟩:=info_parts jO;obtain ⟨C,hC⟩:∃ C:Array Value,C.toList=List.replicate n (.int .i64 0):=⟨(List.replicate n (.int .i64 0)).toArray,by simp⟩;have z1:∀ wx,(Instr.makeSlice 23 (.int .i64 (n:Int)) (.int .i64 (n:Int))).run prog wx=.ok (.slice (some ⟨wx.heap.size,0,none⟩) n n) (wx.alloc (.cells C 3)):=fun wx=>by
  rw [run_makeSlice (P:=prog) (w:=wx) 23 3 i0 _ Tryz.underlying23 z0 z3 .i64 .i64 _ _ (by omega) (by omega) (by rw [y7];omega) (by rw [z4];omega) (by omega),y7];have e:madeCells (Value.int .i64 0).cells (n*1)=C:=by
   rw [<-Array.toList_inj,zA,hC]
  simp only [Int.toNat_natCast];rw [e]
 have n0:¬ (n:Int)<0:=by omega
 have z7:¬ (48:Int)<n:=by omega
 have vN:Hid (∀ wx (rv sv:Value),Only [] w wx->Bls wx w.heap.size rv (List.replicate n b)->aN wx w.heap.size sv (List.replicate n 0)->(∀ g,rv.ownBlock=some g->sv.ownBlock≠some g)->
   Calls prog 211 #[.pointer (some ⟨hb,0,none⟩),.agg #[.int .i64 k,.int .i64 c,rv,sv,.slice none 0 0],.bool true] wx (lW w L hb (.tuple #[.int .i64 (M.add (qO k c n)).1,.int .i64 (M.add (qO k c n)).2.1]) (M.add (qO k c n)).2.2)):=fun wx rv sv ho z2 z6 hd=>
  aDI wx h hk ho (qO k c n) y6.1 y6.2 rv sv (by rw [<-y2] at z2;exact z2) z6 hd true (fun e=>by cases e)
 obtain ⟨F,hF⟩:∃ F:Ending->World->Prop,F=lW w L hb (.tuple #[.int .i64 (M.add (qO k c n)).1,.int .i64 (M.add (qO k c n)).2.1]) (M.add (qO k c n)).2.2:=⟨_,rfl⟩;rw [<-hF] at vN;replace hR:Hid (∀ e w',F e w'->R e w'):=by rw [hF];exact hR
 have y9:Hid (∀ e w',F e w'->∃ r0 r1:Int,e=.returned (.tuple #[.int .i64 r0,.int .i64 r1])):=fun e w' he=>by rw [hF] at he;exact ⟨_,_,he.1⟩
 have HZ:=aA (qZ w n (by omega) C hC);have x6:=aA y2;have y8:Hid (Only [] w ((w.alloc (.cells C 3)).alloc (.cells #[.int .i64 k,.int .i64 c,.slice none 0 0,.slice (some ⟨w.heap.size,0,none⟩) n n,.slice none 0 0] 217))):=((Only.refl [] w).alloc _).alloc _;have qR:Hid (Row ((w.alloc (.cells C 3)).alloc (.cells #[.int .i64 k,.int .i64 c,.slice none 0 0,.slice (some ⟨w.heap.size,0,none⟩) n n,.slice none 0 0] 217)) (w.heap.size+1) 217 [.int .i64 k,.int .i64 c,.slice none 0 0,.slice (some ⟨w.heap.size,0,none⟩) n n,.slice none 0 0]):=by
  have:=Row.new (w.alloc (.cells C 3)) 217 [.int .i64 k,.int .i64 c,.slice none 0 0,.slice (some ⟨w.heap.size,0,none⟩) n n,.slice none 0 0];rwa [World.size_alloc] at this
 have x7:Hid (aN ((w.alloc (.cells C 3)).alloc (.cells #[.int .i64 k,.int .i64 c,.slice none 0 0,.slice (some ⟨w.heap.size,0,none⟩) n n,.slice none 0 0] 217)) w.heap.size (.slice (some ⟨w.heap.size,0,none⟩) n n) (List.replicate n 0)):=HZ.o.alloc _;have x1:Hid (((w.alloc (.cells C 3)).alloc (.cells #[.int .i64 k,.int .i64 c,.slice none 0 0,.slice (some ⟨w.heap.size,0,none⟩) n n,.slice none 0 0] 217)).heap.size=w.heap.size+2):=by show _=_;simp
 have HN:=aA hn;clear hF y6 h hk z0 z3 y7 z4 hC HZ y2 hn;rcases y5.o with ⟨rfl,rfl⟩|⟨rfl,g1,g2⟩
 ·have h2:=x6.o;simp at h2;subst h2;clear y5 x6;go_in;go_wp2_with fail;go_fit h1;rintro e _ ⟨rfl,rfl⟩;clear h1;go_wp2_with fail;generalize (w.alloc (.cells C 3)).alloc (.cells #[.int .i64 3,.int .i64 0,.slice none 0 0,.slice (some ⟨w.heap.size,0,none⟩) n n,.slice none 0 0] 217)=w1 at*;obtain ⟨x0,h6⟩:∃ z,z=w.heap.size:=⟨_,rfl⟩;have y0:=aA h6;obtain ⟨y,hy⟩:∃ z,z=x0+1:=⟨_,rfl⟩;rw [<-h6,<-hy] at qR;rw [<-h6] at x7 x1 vN;rw [<-h6,<-hy];have HY:Hid (x0<y/\y<x0+2/\w1.heap.size=x0+2):=⟨by omega,by omega,x1.o⟩;clear h6 hy z1 x1;go_loopw [13] (fun iv wr=>∃ (m:Nat) (rv:Value),m<=n/\iv=.int .i64 m/\Bls wr w1.heap.size rv (List.replicate m false)/\Row wr y 217 [.int .i64 3,.int .i64 0,rv,.slice (some ⟨x0,0,none⟩) n n,.slice none 0 0]/\Only [y] w1 wr) (fun iv _=>n - (intOf iv).toNat)
  case atStart=>exact ⟨0,.slice none 0 0,by omega,rfl,Bls.nil _ _,qR.o,Only.refl _ _⟩
  case round=>
   clear qR;obtain ⟨m,rv,hm,rfl,h2,h7,ho⟩:=hrel;obtain ⟨ra,rc,x2⟩:=h2.len;rw [List.length_replicate] at x2;subst x2;have h3:=aA h2;have h4:=aA h7;have HO:=aA ho;have c2:wr.cell? ⟨y,2,none⟩=_:=h7.cell 2 rfl;clear h2 h7 ho
   by_cases z5:m<n
   ·have x5:(m:Int)<n:=by omega
    go_wp2_with (at_builtin;refine vK rfl _ _ rfl w1.heap.size _ _ rfl (h3.o.alloc _) wr.heap.size false rfl ?c1 ?c2 ?c3 ?c4)
    case c1=>exact (Row.new wr _ [_]).cell 0 rfl
    case c2=>simp;have:=HN.o;omega
    case c3=>have:=HO.o.size;simp;omega
    case c4=>
     intro v' w6 h5 h9 y3;rw [pV] at h5;obtain ⟨d,h0,x3⟩:=h5.len;rw [List.length_replicate] at x3;subst x3;have x4:y∉(Value.slice ra m rc).ownBlock.toList:=fun hx=>by
      have:=(h3.o.own y (by simpa using hx)).1;have:=HY.o;omega
     have h8:=h9.row (h4.o.alloc (.cells #[.bool false] 4)) x4;have f6:=h8.free 2;have c6:w6.cell? ⟨y,2,none⟩=_:=h8.cell 2 rfl;have x9:Hid (Bls (w6.setCell ⟨y,2,none⟩ (.slice d (m+1) h0)) w1.heap.size (.slice d (m+1) h0) (List.replicate (m+1) false)):=h5.only ((Only.refl [y] w6).set (p:=⟨y,2,none⟩) (.inl (by simp)) (.slice d (m+1) h0)) (fun g' y4=>by have:=(h5.own g' y4).1;have:=HY.o;simp;omega);have y1:Hid (Row (w6.setCell ⟨y,2,none⟩ (.slice d (m+1) h0)) y 217 [.int .i64 3,.int .i64 0,.slice d (m+1) h0,.slice (some ⟨x0,0,none⟩) n n,.slice none 0 0]):=h8.set 2 (.slice d (m+1) h0);have x8:Hid (Only [y] w1 (w6.setCell ⟨y,2,none⟩ (.slice d (m+1) h0))):=((HO.o.alloc _).trans h9 (fun x hx=>.inr (h3.o.own x (by simpa using hx)).1)).set (.inl (by simp)) _;clear h5 h9 x4 h8 c2 y3;go_wp2;exact ⟨⟨m+1,.slice d (m+1) h0,by omega,by go_num,x9.o,y1.o,x8.o⟩,by simp [intOf];omega⟩
   obtain rfl:m=n:=by omega
   have x5:¬ (m:Int)<(m:Int):=by omega
   have c0:wr.cell? ⟨y,0,none⟩=_:=h4.o.cell 0 rfl;have c1:wr.cell? ⟨y,1,none⟩=_:=h4.o.cell 1 rfl;have c3:wr.cell? ⟨y,3,none⟩=_:=h4.o.cell 3 rfl;have c4:wr.cell? ⟨y,4,none⟩=_:=h4.o.cell 4 rfl;have HM:=vN.o wr (.slice ra m rc) (.slice (some ⟨x0,0,none⟩) m m) (y8.o.trans HO.o (fun x hx=>.inr (by have:=HY.o;have:=y0.o;simp at hx;omega))) (h3.o.base (by have:=HY.o;omega))
    (x7.o.only HO.o (fun g hg=>by cases hg;have:=HY.o;simp;omega)) (fun g hg=>by have:=(h3.o.own g hg).1;have:=HY.o;simp [Value.ownBlock];omega)
   clear vN;go_wp2_with fail;go_fit HM;intro e w9 hf;obtain ⟨r0,r1,rfl⟩:=y9.o _ _ hf;go_wp2;exact hR.o _ _ hf
 have h2:=x6.o;simp at h2;subst h2;clear y5 x6;go_in;go_wp2_with fail;go_fit h1;rintro e _ ⟨rfl,rfl⟩;clear h1;go_wp2_with fail;generalize (w.alloc (.cells C 3)).alloc (.cells #[.int .i64 4,.int .i64 c,.slice none 0 0,.slice (some ⟨w.heap.size,0,none⟩) n n,.slice none 0 0] 217)=w1 at*;obtain ⟨x0,h6⟩:∃ z,z=w.heap.size:=⟨_,rfl⟩;have y0:=aA h6;obtain ⟨y,hy⟩:∃ z,z=x0+1:=⟨_,rfl⟩;rw [<-h6,<-hy] at qR;rw [<-h6] at x7 x1 vN;rw [<-h6,<-hy];have HY:Hid (x0<y/\y<x0+2/\w1.heap.size=x0+2):=⟨by omega,by omega,x1.o⟩;clear h6 hy z1 x1;go_loopw [13] (fun iv wr=>∃ (m:Nat) (rv:Value),m<=n/\iv=.int .i64 m/\Bls wr w1.heap.size rv (List.replicate m true)/\Row wr y 217 [.int .i64 4,.int .i64 c,rv,.slice (some ⟨x0,0,none⟩) n n,.slice none 0 0]/\Only [y] w1 wr) (fun iv _=>n - (intOf iv).toNat)
 case atStart=>exact ⟨0,.slice none 0 0,by omega,rfl,Bls.nil _ _,qR.o,Only.refl _ _⟩
 case round=>
  clear qR;obtain ⟨m,rv,hm,rfl,h2,h7,ho⟩:=hrel;obtain ⟨ra,rc,x2⟩:=h2.len;rw [List.length_replicate] at x2;subst x2;have h3:=aA h2;have h4:=aA h7;have HO:=aA ho;have c2:wr.cell? ⟨y,2,none⟩=_:=h7.cell 2 rfl;clear h2 h7 ho
  by_cases z5:m<n
  ·have x5:(m:Int)<n:=by omega
   go_wp2_with (at_builtin;refine vK rfl _ _ rfl w1.heap.size _ _ rfl (h3.o.alloc _) wr.heap.size true rfl ?c1 ?c2 ?c3 ?c4)
   case c1=>exact (Row.new wr _ [_]).cell 0 rfl
   case c2=>simp;have:=HN.o;omega
   case c3=>have:=HO.o.size;simp;omega
   case c4=>
    intro v' w6 h5 h9 y3;rw [pV] at h5;obtain ⟨d,h0,x3⟩:=h5.len;rw [List.length_replicate] at x3;subst x3;have x4:y∉(Value.slice ra m rc).ownBlock.toList:=fun hx=>by
     have:=(h3.o.own y (by simpa using hx)).1;have:=HY.o;omega
    have h8:=h9.row (h4.o.alloc (.cells #[.bool true] 4)) x4;have f6:=h8.free 2;have c6:w6.cell? ⟨y,2,none⟩=_:=h8.cell 2 rfl;have x9:Hid (Bls (w6.setCell ⟨y,2,none⟩ (.slice d (m+1) h0)) w1.heap.size (.slice d (m+1) h0) (List.replicate (m+1) true)):=h5.only ((Only.refl [y] w6).set (p:=⟨y,2,none⟩) (.inl (by simp)) (.slice d (m+1) h0)) (fun g' y4=>by have:=(h5.own g' y4).1;have:=HY.o;simp;omega);have y1:Hid (Row (w6.setCell ⟨y,2,none⟩ (.slice d (m+1) h0)) y 217 [.int .i64 4,.int .i64 c,.slice d (m+1) h0,.slice (some ⟨x0,0,none⟩) n n,.slice none 0 0]):=h8.set 2 (.slice d (m+1) h0);have x8:Hid (Only [y] w1 (w6.setCell ⟨y,2,none⟩ (.slice d (m+1) h0))):=((HO.o.alloc _).trans h9 (fun x hx=>.inr (h3.o.own x (by simpa using hx)).1)).set (.inl (by simp)) _;clear h5 h9 x4 h8 c2 y3;go_wp2;exact ⟨⟨m+1,.slice d (m+1) h0,by omega,by go_num,x9.o,y1.o,x8.o⟩,by simp [intOf];omega⟩
  obtain rfl:m=n:=by omega
  have x5:¬ (m:Int)<(m:Int):=by omega
  have c0:wr.cell? ⟨y,0,none⟩=_:=h4.o.cell 0 rfl;have c1:wr.cell? ⟨y,1,none⟩=_:=h4.o.cell 1 rfl;have c3:wr.cell? ⟨y,3,none⟩=_:=h4.o.cell 3 rfl;have c4:wr.cell? ⟨y,4,none⟩=_:=h4.o.cell 4 rfl;have HM:=vN.o wr (.slice ra m rc) (.slice (some ⟨x0,0,none⟩) m m) (y8.o.trans HO.o (fun x hx=>.inr (by have:=HY.o;have:=y0.o;simp at hx;omega))) (h3.o.base (by have:=HY.o;omega))
   (x7.o.only HO.o (fun g hg=>by cases hg;have:=HY.o;simp;omega)) (fun g hg=>by have:=(h3.o.own g hg).1;have:=HY.o;simp [Value.ownBlock];omega)
  clear vN;go_wp2_with fail;go_fit HM;intro e w9 hf;obtain ⟨r0,r1,rfl⟩:=y9.o _ _ hf;go_wp2;exact hR.o _ _ hf
theorem sO (w:World) (h:bJ w L hb M X) (hk:M.Ok) (k c n:Int) :
  Calls prog 174 #[.pointer (some ⟨hb,0,none⟩),.int .i64 k,.int .i64 c,.int .i64 n] w (lW w L hb (.tuple #[.int .i64 (M.aG k c n).1,.int .i64 (M.aG k c n).2.1]) (M.aG k c n).2.2):=by
 refine aF fun R d=>?_
 by_cases y:¬ (n<0\/48<n)/\((k=3/\c=0)\/(k=4/\0<=c/\c<10))
 ·obtain ⟨z,h0⟩:=y;have hr:M.aG k c n=M.add (qO k c n.toNat):=by unfold Hp.aG;rw [if_neg z,if_pos h0]
  rw [hr] at d;have h2:=qN z h0;obtain ⟨m,rfl⟩:∃ m:Nat,n=m:=⟨n.toNat,by omega⟩;rw [Int.toNat_natCast] at d h2;exact aAB w h hk k c m (by omega) _ true h2 rfl R d h0
 have hr:M.aG k c n=(0,1,M):=by
  unfold Hp.aG
  by_cases z:n<0\/48<n
  ·rw [if_pos z]
  rw [if_neg z,if_neg (fun e=>y ⟨z,e⟩)]
 rw [hr] at d;have h1:=fM w h;have HD:Hid (lW w L hb (.tuple #[.int .i64 0,.int .i64 1]) M (.returned (.tuple #[.int .i64 0,.int .i64 1])) w):=lW.none0 h (Only.refl _ _);have vO:=aA y;clear h hr y hk;go_in
 by_cases a1:k=3
 ·subst a1
  by_cases a2:c=0
  ·subst a2
   by_cases n1:n<0
   ·clear vO;go_wp2_with fail;go_fit h1;rintro e _ ⟨rfl,rfl⟩;go_wp2;exact d.o _ _ HD.o
   have n2:48<n:=by
    by_cases e:48<n
    ·exact e
    exact absurd ⟨by omega,.inl ⟨rfl,rfl⟩⟩ vO.o
   clear vO;go_wp2_with fail;go_fit h1;rintro e _ ⟨rfl,rfl⟩;go_wp2;exact d.o _ _ HD.o
  clear vO;go_wp2_with fail;go_fit h1;rintro e _ ⟨rfl,rfl⟩;go_wp2;exact d.o _ _ HD.o
 by_cases a3:k=4
 ·subst a3
  by_cases a4:0<=c
  ·by_cases a5:c<10
   ·by_cases n1:n<0
    ·clear vO;go_wp2_with fail;go_fit h1;rintro e _ ⟨rfl,rfl⟩;go_wp2;exact d.o _ _ HD.o
    have n2:48<n:=by
     by_cases e:48<n
     ·exact e
     exact absurd ⟨by omega,.inr ⟨rfl,a4,a5⟩⟩ vO.o
    clear vO;go_wp2_with fail;go_fit h1;rintro e _ ⟨rfl,rfl⟩;go_wp2;exact d.o _ _ HD.o
   clear vO;go_wp2_with fail;go_fit h1;rintro e _ ⟨rfl,rfl⟩;go_wp2;exact d.o _ _ HD.o
  clear vO;go_wp2_with fail;go_fit h1;rintro e _ ⟨rfl,rfl⟩;go_wp2;exact d.o _ _ HD.o
 clear vO;go_wp2_with fail;go_fit h1;rintro e _ ⟨rfl,rfl⟩;go_wp2;exact d.o _ _ HD.o
end
section
variable {L:Nat->Option Gb} {hb:Nat} {M:Hp} {X:GX}
theorem aKB (w:World) (h:bJ w L hb M X) (hk:M.Ok) (x:Int) {o:Th} (ho:M.ob x=some o) :
  Calls prog 250 #[.pointer (some ⟨hb,0,none⟩),.int .i64 x] w (fun e w'=>e=.returned (.tuple #[])/\∀ r,lW w L hb r (M.drop x o) (.returned r) w'):=by
 refine aF fun R hR=>?_;have h2:=h.cells.1;obtain ⟨i,rfl,hi,x0,x1⟩:=hk.idx ho;obtain ⟨c0,c1,c2,c3,c4⟩:=h.iW hi ho;have lo:=hk.aMB ho;have th:=h.th (i:Int) o ho;obtain ⟨a2,b2,e2⟩:=th.rb.len;obtain ⟨a3,b3,e3⟩:=th.sl.len;obtain ⟨bg,b4,e4,h7⟩:=th.bl.cellsOf lo.b1;have x4:Hid (L bg=some (.bl i)):=th.Lb bg (by rw [e4];rfl);rw [e2] at c2;rw [e3] at c3;rw [e4] at c4;obtain ⟨d,h8⟩:∃ z,z=o.blocks.length:=⟨_,rfl⟩;rw [<-h8] at c4 h7;have y3:=aA h7;have y4:=aA h8;have y2:Hid (1<=d/\d<=7):=by have:=lo.b1;have:=lo.b7;exact ⟨by omega,by omega⟩
 have H:=aA h;have HK:=aA hk;have y7:=aA ho;have x3:=aA hi;generalize o.kind=kd at*;generalize o.cls=cl at*;generalize o.refs.length=rn at*;generalize o.slots.length=n at*;obtain ⟨og,h9⟩:∃ z,z=X.og:=⟨_,rfl⟩;rw [<-h9] at h2 c0 c1 c2 c3 c4;have h1:=aA h9;have x6:Hid (Row (w.alloc (.cells #[.int .i64 kd,.int .i64 cl,.slice a2 rn b2,.slice a3 n b3,.slice (some ⟨bg,0,none⟩) d b4] 217)) w.heap.size 217 [.int .i64 kd,.int .i64 cl,.slice a2 rn b2,.slice a3 n b3,.slice (some ⟨bg,0,none⟩) d b4]):=Row.new w _ [_,_,_,_,_];have h5:Hid (Only [] w (w.alloc (.cells #[.int .i64 kd,.int .i64 cl,.slice a2 rn b2,.slice a3 n b3,.slice (some ⟨bg,0,none⟩) d b4] 217))):=(Only.refl [] w).alloc _;clear th h hk ho lo e2 e3 e4 h7 h8 hi h9;go_in;go_wp2_with fail;generalize (w.alloc (.cells #[.int .i64 kd,.int .i64 cl,.slice a2 rn b2,.slice a3 n b3,.slice (some ⟨bg,0,none⟩) d b4] 217))=w6 at*;obtain ⟨y,hy⟩:∃ y,y=w.heap.size:=⟨_,rfl⟩;rw [<-hy] at x6 ⊢;have x5:Hid (L y=none):=by
  show _=_
  cases e:L y with
  | none=>rfl
  | some ℓ=>have:=H.o.lt y (by rw [e];simp);omega
 clear h2 c0 c1 c2 c3 c4 hy;have x2:Hid (bJ w6 L hb ⟨iL M.P o.blocks 0,M.ob⟩ X):=H.o.aK h5.o;have N1:Hid (hb∉[X.k,X.c,X.l]):=bJ.notP (P:=M.P) (ob:=M.ob) H.o H.o.Lm (by simp) (by simp) (by simp) (by simp);have NB:Hid (bg∉[X.k,X.c,X.l]):=bJ.notP (P:=M.P) (ob:=M.ob) H.o x4.o (by simp) (by simp) (by simp) (by simp);have NY:Hid (y∉[X.k,X.c,X.l]):=by
  have:=x5.o;show _∉_;simp;refine ⟨?_,?_,?_⟩<;>(rintro rfl;first|(rw [H.o.Lk] at this;cases this)|(rw [H.o.Lc] at this;cases this)|(rw [H.o.Ll] at this;cases this))
 go_loopw [5] (fun iv wr=>∃ m:Nat,m<=d/\iv=.int .i64 m/\bJ wr L hb ⟨iL M.P o.blocks m,M.ob⟩ X/\aI (fun k=>kR (L k)) w6 wr) (fun iv _=>d - (intOf iv).toNat)
 case atStart=>exact ⟨0,by omega,rfl,x2.o,aI.refl _ _⟩
 case round=>
  clear x2;obtain ⟨m,hm,rfl,hg,ho⟩:=hrel;have HG:=aA hg;have HO:=aA ho;have x9:¬ kR (L y):=by rw [x5.o];rintro (h|h|h|h)<;>cases h
  have h3:=ho.row x6.o x9;have d4:wr.cell? ⟨y,4,none⟩=some (.slice (some ⟨bg,0,none⟩) d b4):=h3.cell 4 rfl;clear hg ho x9 h3
  by_cases y9:m<d
  ·have y0:(m:Int)<(d:Int):=by omega
   have z1:(0:Int)<=(m:Int):=by omega
   have z2:(m:Int)<=7:=by have:=y2.o;omega
   have e1:wr.drew.cell? ⟨hb,1,none⟩=some (.pointer (some ⟨X.q,0,none⟩)):=HG.o.cells.2.1;have e4:wr.drew.cell? ⟨y,4,none⟩=some (.slice (some ⟨bg,0,none⟩) d b4):=d4;have x7:¬ kR (L bg):=by rw [x4.o];rintro (h|h|h|h)<;>cases h
   have eb:wr.drew.cell? ⟨bg,m,none⟩=some (.int .i64 (gI o.blocks m)):=HO.o.cell (h5.o.aS (y3.o m y9)) x7;have y8:Hid ((iL M.P o.blocks m).ok):=(aBj HK.o.p o.blocks m).1;have h4:=aA (aCM wr.drew X.q X.k X.c X.l (iL M.P o.blocks m) HG.o.drew.pool y8.o (gI o.blocks m));obtain ⟨a0,h6⟩:∃ z,z=gI o.blocks m:=⟨_,rfl⟩;rw [<-h6] at h4 eb;have y1:=aA h6;have n1:=N1.o;have nb:=NB.o;have ny:=NY.o;clear h6 x7;go_wp2;go_region_held3 (fun w'=>w'.cell? ⟨hb,1,none⟩=some (.pointer (some ⟨X.q,0,none⟩))/\w'.cell? ⟨y,4,none⟩=some (.slice (some ⟨bg,0,none⟩) d b4)/\w'.cell? ⟨bg,m,none⟩=some (.int .i64 a0))
    (first|(exact ⟨e1,e4,eb⟩)|(exact ⟨h0.cell e1 n1,h0.cell e4 ny,h0.cell eb nb⟩))
    (first
     | (go_at_call 254;go_fit h4.o;rintro e w7 ⟨rfl,x8,h0⟩))
   have y5:Hid (bJ w7 L hb ⟨iL M.P o.blocks (m+1),M.ob⟩ X):=by
    show bJ _ _ _ _ _;have:=bJ.gK (P:=iL M.P o.blocks m) (ob:=M.ob) HG.o.drew h0 x8;rw [y1.o] at this;exact this
   have y6:Hid (aI (fun k=>kR (L k)) w6 w7):=HO.o.drew.trans (bJ.aCW (P:=iL M.P o.blocks m) (ob:=M.ob) HG.o.drew h0) (fun x hx=>.inl hx);clear h4 x8 h0 e1 e4 eb n1 nb ny d4;go_wp2;exact ⟨⟨m+1,by omega,by go_num,y5.o,y6.o⟩,by simp [intOf];omega⟩
  obtain rfl:m=d:=by omega
  have y0:¬ (m:Int)<(m:Int):=by omega
  have e0:wr.cell? ⟨hb,0,none⟩=some (.slice (some ⟨og,0,none⟩) 193 X.oc):=by rw [h1.o];exact HG.o.cells.1
  have ef:∀ j,wr.frozen? ⟨og,j,none⟩=false:=by rw [h1.o];exact HG.o.cells.2.2.2
  obtain ⟨q0,q1,q2,q3,q4⟩:=bJ.iW (M:=⟨iL M.P o.blocks m,M.ob⟩) HG.o x3.o y7.o;rw [<-h1.o] at q0 q1 q2 q3 q4;have f0:=ef (i*5);have f1:=ef (i*5+1);have f2:=ef (i*5+2);have f3:=ef (i*5+3);have f4:=ef (i*5+4);have iG:Hid (∀ r,lW w L hb r (M.drop i o) (.returned r) (wr.setCells X.og (i*5) [.int .i64 0,.int .i64 0,.slice none 0 0,.slice none 0 0,.slice none 0 0])):=fun r=>by
   have hs:=bJ.aOs (P:=iL M.P o.blocks m) (ob:=M.ob) HG.o x3.o;have z0:=bJ.wR (P:=iL M.P o.blocks m) (ob:=M.ob) HG.o [.int .i64 0,.int .i64 0,.slice none 0 0,.slice none 0 0,.slice none 0 0] (i*5);refine ⟨rfl,L,X,?_,fun k hk=>.inl hk,?_⟩
   ·unfold Hp.drop;rw [<-y4.o];exact hs
   refine ((h5.o.vU (S:=fun k=>L k≠none)).trans (HO.o.mono (fun x hx=>.inl (fun e=>by rw [e] at hx;rcases hx with h|h|h|h<;>cases h))) (fun x hx=>.inl hx)).trans z0 (fun x hx=>.inl (by rw [hx];simp))
  rw [<-h1.o] at iG;clear ef;go_wp2_with fail;go_end0;exact hR.o _ _ ⟨rfl,iG.o⟩
theorem Hp.aAN {M:Hp} {h k:Int}:M.refers h k=(decide (k≠h) && decide (h∈(M.refs k).1)):=by
 unfold Hp.refers Hp.refs
 cases M.ob k<;>simp
theorem Hp.aHC {M:Hp} {h:Int} (e:∀ k:Nat,k<192->M.refers h ((k:Int)+1)=false):M.held h=false:=by
 cases z:M.held h with
 | false=>rfl
 | true=>obtain ⟨k,d,y⟩:=Hp.mJ.1 z;rw [e k d] at y;cases y
theorem Hp.rF {M:Hp} (y:M.Ok) (k:Int):(M.refs k).1.length<=48:=by
 unfold Hp.refs
 cases z:M.ob k with
 | none=>simp
 | some o=>have:=o.jY o.slots.length;have:=(y.th k o z).le;simp only [Th.fJ];omega
theorem aDB (w:World) (h:bJ w L hb M X) (hk:M.Ok) (x:Int):Calls prog 224 #[.pointer (some ⟨hb,0,none⟩),.int .i64 x] w (lW w L hb (.int .i64 (M.release x).1) (M.release x).2):=by
 refine aF fun R hR=>?_
 cases ho:M.ob x with
 | none=>
  have hr:M.release x=(3,M):=by unfold Hp.release;rw [ho]
  rw [hr] at hR;have HD:Hid (lW w L hb (.int .i64 3) M (.returned (.int .i64 3)) w):=lW.none0 h (Only.refl _ _);have h1:=lS w h hk x ho;clear h hk ho hr;go_in;go_wp2_with fail;go_fit h1;rintro e _ ⟨rfl,rfl⟩;go_wp2;exact hR.o _ _ HD.o
 | some o=>
  have hr:M.release x=if M.held x then (13,M) else (0,M.drop x o):=by unfold Hp.release;rw [ho]
  rw [hr] at hR;have h1:=lQ w h hk x ho;have y3:Hid (1<=x/\x<=192):=by have:=hk.hr x o ho;exact ⟨by omega,by omega⟩
  have H:=aA h;have HK:=aA hk;have x2:=aA ho;clear h hk ho hr;go_in;go_wp2_with fail;go_fit h1;rintro e _ ⟨rfl,rfl⟩;clear h1;go_wp2;go_loopw [6] (fun iv wr=>∃ k:Nat,k<=192/\iv=.int .i64 ((k:Int)+1)/\Only [] w wr/\Hid (∀ j:Nat,j<k->M.refers x ((j:Int)+1)=false)) (fun iv _=>193 - (intOf iv).toNat)
  case atStart=>exact ⟨0,by omega,rfl,Only.refl _ _,fun j hj=>by omega⟩
  case round=>
   obtain ⟨k,hk,rfl,ho,HF⟩:=hrel;have HG:=aA (H.o.aK ho);have HO:=aA ho;have c0:=HG.o.cells.1;clear ho
   by_cases y1:k<192
   ·have x1:(k:Int)+1<193:=by omega
    have y0:(0:Int)<=(k:Int)+1:=by omega
    have h4:=zL wr HG.o HK.o ((k:Int)+1);obtain ⟨z,hz⟩:∃ z:Int,z=(k:Int)+1:=⟨_,rfl⟩;have HZ:=aA hz;have y7:z<193:=by omega
    have y6:0<=z:=by omega
    rw [<-hz] at h4 ⊢;clear hz x1 y0;go_wp2_with fail;go_fit h4;rintro e w5 ⟨v,rfl,hi,h8⟩;obtain ⟨va,vc,rfl⟩:=hi.len;have x7:=Hp.rF HK.o z;have h0:∀ j,j<(M.refs z).1.length->∃ g,va=some ⟨g,0,none⟩/\w5.cell? ⟨g,j,none⟩=some (.int .i64 (gI (M.refs z).1 j)):=fun j hj=>by
     rcases hi.form with ⟨_,e⟩|⟨g,cap,e,_,_,_,hc⟩
     ·rw [e] at hj;simp at hj
     cases e;exact ⟨g,rfl,hc j hj⟩
    have x6:=aA h0;have h2:Hid (Only [] w w5):=HO.o.trans h8 (by simp);obtain ⟨e1,h7⟩:∃ y,y=(M.refs z).2:=⟨_,rfl⟩;rw [<-h7];obtain ⟨n,hn⟩:∃ y,y=(M.refs z).1.length:=⟨_,rfl⟩;have HN:=aA hn;rw [<-hn] at x7 ⊢;clear h4 hi h8 h0 h7 c0 hn;go_wp2;go_loopw [9] (fun iv wr=>∃ m:Nat,m<=n/\iv=.int .i64 m/\w5=wr/\Hid (∀ j:Nat,j<m->z≠x->gI (M.refs z).1 j≠x)) (fun iv _=>n - (intOf iv).toNat)
    case atStart=>exact ⟨0,by omega,rfl,rfl,fun j hj=>by omega⟩
    case round=>
     obtain ⟨m,hm,rfl,rfl,h5⟩:=hrel
     by_cases y5:m<n
     ·have x4:(m:Int)<n:=by omega
      have y4:(0:Int)<=m:=by omega
      obtain ⟨g,rfl,x9⟩:=x6.o m (by have:=HN.o;omega)
      by_cases d:z=x
      ·have x8:(z != x)=false:=by simp [d]
       have x3:=aA d;have h3:Hid (M.refers x z=false):=by rw [d];exact Hp.yF
       clear d;go_wp2;refine ⟨⟨k+1,by omega,by have:=HZ.o;go_num,h2.o,fun j hj=>?_⟩,by have:=HZ.o;simp [intOf];omega⟩
       by_cases e:j=k
       ·rw [e,<-HZ.o];exact h3.o
       exact HF.o j (by omega)
      have x8:(z != x)=true:=by simp [d]
      obtain ⟨y,hy⟩:∃ y,y=gI (M.refs z).1 m:=⟨_,rfl⟩;rw [<-hy] at x9;have HY:=aA hy
      by_cases h9:y=x
      ·subst h9;have HH:Hid (M.held y=true):=Hp.mJ.2 ⟨k,y1,by rw [<-HZ.o,Hp.aAN];simp [d];exact dX.2 ⟨m,by have:=HN.o;omega,HY.o.symm⟩⟩;have HD:Hid (lW w L hb (.int .i64 13) M (.returned (.int .i64 13)) w5):=lW.none0 H.o h2.o;clear hy d;go_wp2;refine hR.o _ _ ?_;rw [HH.o];exact HD.o
      have x3:=aA d;clear hy d;go_wp2;refine ⟨⟨m+1,by omega,by go_num,by trivial,fun j hj y2=>?_⟩,by simp [intOf];omega⟩
      by_cases e:j=m
      ·rw [e,<-HY.o];exact h9
      exact h5.o j (by omega) y2
     obtain rfl:m=n:=by omega
     have x4:¬ (m:Int)<(m:Int):=by omega
     have h3:Hid (M.refers x z=false):=by
      show _=_;rw [Hp.aAN]
      by_cases e:z=x
      ·simp [e]
      have:¬ x∈(M.refs z).1:=fun hx=>by
       obtain ⟨j,hj,he⟩:=dX.1 hx;exact h5.o j (by rw [HN.o];exact hj) e he
      simp [this]
     go_wp2;refine ⟨⟨k+1,by omega,by have:=HZ.o;go_num,h2.o,fun j hj=>?_⟩,by have:=HZ.o;simp [intOf];omega⟩
     by_cases e:j=k
     ·rw [e,<-HZ.o];exact h3.o
     exact HF.o j (by omega)
   obtain rfl:k=192:=by omega
   have x5:M.held x=false:=Hp.aHC HF.o;rw [x5] at hR;have h6:=aKB wr HG.o HK.o x x2.o;clear HF;go_wp2_with fail;go_fit h6;rintro e w9 ⟨rfl,hd⟩;have HD:Hid (lW w L hb (.int .i64 0) (M.drop x o) (.returned (.int .i64 0)) w9):=by
    obtain ⟨_,L',X',q1,q2,q3⟩:=hd (.int .i64 0);exact ⟨rfl,L',X',q1,fun k hk=>by rcases q2 k hk with h|h;exact .inl h;exact .inr (Nat.le_trans HO.o.size h),HO.o.vU.trans q3 (fun x hx=>.inl hx)⟩
   clear hd h6;go_wp2;exact hR.o _ _ HD.o
end
section
variable {L:Nat->Option Gb} {hb:Nat} {M:Hp} {X:GX}
theorem aRy (w:World) (x s y:Int):Calls prog 144 #[.pointer none,.int .i64 x,.int .i64 s,.int .i64 y] w (aO w (.int .i64 1)):=by
 refine aF fun R d=>?_;have z:=aKn w x s;go_in;go_wp2_with fail;go_fit z;rintro e _ ⟨rfl,rfl⟩;go_wp2;exact d.o _ _ ⟨rfl,rfl⟩
theorem aMQ (w:World) (h:bJ w L hb M X) (z:M.Ok) {i:Nat} (hi:i<193) {o:Th} (ho:M.ob (i:Int)=some o) {s:Nat} (hs:s<o.slots.length) {y:Int} (hf:M.fits (gB o.refs s) y=true) {g n cap:Nat} (hv:X.sv i=.slice (some ⟨g,0,none⟩) n cap) :
  Calls prog 214 #[.pointer (some ⟨hb,0,none⟩),.int .i64 i] (w.setCell ⟨g,s,none⟩ (.int .i64 y)) (fun e w'=>e=.returned (.tuple #[])/\
   ∀ r,lW w L hb r ⟨(M.P.setCell (o.addr s) y).2,eU M.ob i (some (o.put s y))⟩ (.returned r) w'):=by
 have h2:=z.put ho hs hf;have h0:eU M.ob (i:Int) (some (o.put s y)) (i:Int)=some (o.put s y):=aZ _ _ _;have hg:=bJ.setSlot (P:=M.P) (ob:=M.ob) h ho hv s y;have h1:L g=some (.sl i):=(h.th i o ho).Ls g (by rw [hv];rfl);refine (aBZ _ hg z.p hi h0 (h2.aMB h0)).mono ?_;rintro e w' ⟨rfl,d,h3⟩;rw [z.aOR ho hs hf] at d;exact ⟨rfl,fun r=>⟨rfl,L,X,d,fun k z=>.inl z,((aI.refl _ w).set (p:=⟨g,s,none⟩) (.inl (by rw [h1];simp)) _).trans h3 (fun x hx=>.inl (fun e=>by rw [e] at hx;rcases hx with h|h|h|h<;>cases h))⟩⟩
theorem aGd (w:World) (h:bJ w L hb M X) (hk:M.Ok) (x s y:Int):Calls prog 144 #[.pointer (some ⟨hb,0,none⟩),.int .i64 x,.int .i64 s,.int .i64 y] w (lW w L hb (.int .i64 (M.set x s y).1) (M.set x s y).2):=by
 refine aF fun R hR=>?_;have HD:Hid (∀ r,lW w L hb r M (.returned r) w):=fun r=>lW.none0 h (Only.refl _ _)
 cases ho:M.ob x with
 | none=>
  have hr:M.set x s y=(3,M):=by unfold Hp.set;rw [ho]
  rw [hr] at hR;have h1:=uX w h hk x s ho;clear h hk ho hr;go_in;go_wp2_with fail;go_fit h1;rintro e _ ⟨rfl,rfl⟩;go_wp2;exact hR.o _ _ (HD.o _)
 | some o=>
  by_cases h3:s<0\/(o.slots.length:Int)<=s
  ·have hr:M.set x s y=(1,M):=by unfold Hp.set;rw [ho];exact if_pos h3
   rw [hr] at hR;have h1:=zK w h hk x s ho h3;clear h hk ho hr h3;go_in;go_wp2_with fail;go_fit h1;rintro e _ ⟨rfl,rfl⟩;go_wp2;exact hR.o _ _ (HD.o _)
  have h1:=aBX w h hk x s ho h3;obtain ⟨m,rfl⟩:∃ m:Nat,s=m:=⟨s.toNat,by omega⟩;have hm:m<o.slots.length:=by omega
  have hr:M.set x m y=if M.fits (gB o.refs m) y then (0,⟨(M.P.setCell (o.addr m) y).2,eU M.ob x (some (o.put m y))⟩) else (1,M):=by
   unfold Hp.set;rw [ho];show (if _ then _ else _)=_;rw [if_neg h3,Int.toNat_natCast]
  rw [hr] at hR;obtain ⟨i,rfl,hi,x0,x1⟩:=hk.idx ho;have c0:=h.cells.1;obtain ⟨_,_,c2,c3,_⟩:=h.iW hi ho;have th:=h.th (i:Int) o ho;have x7:=(hk.th (i:Int) o ho).rl;obtain ⟨rg,rc,re,h7⟩:=th.rb.cellsOf (by omega);obtain ⟨sg,sc,se,x2⟩:∃ g cap,X.sv i=.slice (some ⟨g,0,none⟩) o.slots.length cap/\∀ j,j<o.slots.length->w.cell? ⟨g,j,none⟩=some (.int .i64 (gI o.slots j)):=by
   rcases th.sl.form with ⟨_,e⟩|⟨g,cap,e,_,_,_,hc⟩
   ·rw [e] at hm;simp at hm
   exact ⟨g,cap,e,hc⟩
  have x8:w.frozen? ⟨sg,m,none⟩=false:=by
   have:=th.sl;rw [se] at this;obtain ⟨_,_,cs,x4,_⟩:=this.row;exact x4.free m
  rw [re] at c2;rw [se] at c3;have cr:=h7 m (by omega);have cs:=x2 m hm;have hn:=fun (wx:World)=>Lib.run_eql_slice_nil (P:=prog) wx 50 4 (some ⟨rg,0,none⟩) o.refs.length rc 0 0 Tryz.underlying50;have h4:=aCa w h hk y;have h2:Hid (M.fits (gB o.refs m) y=true->Calls prog 214 #[.pointer (some ⟨hb,0,none⟩),.int .i64 i] (w.setCell ⟨sg,m,none⟩ (.int .i64 y)) (fun e w'=>e=.returned (.tuple #[])/\
    ∀ r,lW w L hb r ⟨(M.P.setCell (o.addr m) y).2,eU M.ob i (some (o.put m y))⟩ (.returned r) w')):=fun hf=>aMQ w h hk hi ho hm hf se
  have x9:(0:Int)<=(m:Int):=by omega
  have x5:(m:Int)<(o.slots.length:Int):=by omega
  have x6:(m:Int)<(o.refs.length:Int):=by omega
  obtain ⟨ri,h8⟩:∃ z,z=gB o.refs m:=⟨_,rfl⟩;rw [<-h8] at cr h2 hR;obtain ⟨og,h6⟩:∃ z,z=X.og:=⟨_,rfl⟩;rw [<-h6] at c0 c2 c3;obtain ⟨rn,h9⟩:∃ z,z=o.refs.length:=⟨_,rfl⟩;obtain ⟨sn,x3⟩:∃ z,z=o.slots.length:=⟨_,rfl⟩;rw [<-h9] at c2 x6 hn;rw [<-x3] at c3 x5;clear h hk ho hr h3 re se h7 x2 th h8 h6 h9 x3 hi x7 hm
  cases ri with
  | false=>
   have d:M.fits false y=iY y:=rfl;rw [d] at hR h2
   by_cases w1:y < -2147483648
   ·have HW:Hid (iY y=false):=by show _=_;unfold iY;simp;omega
    clear d h4 h2;go_in;go_wp2_with fail;go_fit h1;rintro e _ ⟨rfl,rfl⟩;go_wp2;refine hR.o _ _ ?_;rw [HW.o];exact HD.o _
   by_cases w2:2147483647<y
   ·have HW:Hid (iY y=false):=by show _=_;unfold iY;simp;omega
    clear d h4 h2;go_in;go_wp2_with fail;go_fit h1;rintro e _ ⟨rfl,rfl⟩;go_wp2;refine hR.o _ _ ?_;rw [HW.o];exact HD.o _
   have HW:Hid (iY y=true):=by show _=_;unfold iY;simp;omega
   have HL:=aA (h2.o HW.o);clear d h4 h2;go_in;go_wp2_with fail;go_fit h1;rintro e _ ⟨rfl,rfl⟩;go_wp2_with fail;go_fit HL.o;rintro e w9 ⟨rfl,hd⟩;have h5:=aA hd;clear hd;go_wp2;refine hR.o _ _ ?_;rw [HW.o];exact h5.o _
  | true=>
   have d:M.fits true y=(decide (y=0) || (M.ob y).isSome):=rfl;rw [d] at hR h2
   by_cases y0:y=0
   ·subst y0;have HW:Hid ((decide ((0:Int)=0) || (M.ob 0).isSome)=true):=by show _=_;simp
    have HL:=aA (h2.o HW.o);clear d h4 h2;go_in;go_wp2_with fail;go_fit h1;rintro e _ ⟨rfl,rfl⟩;go_wp2_with fail;go_fit HL.o;rintro e w9 ⟨rfl,hd⟩;have h5:=aA hd;clear hd;go_wp2;refine hR.o _ _ ?_;rw [HW.o];exact h5.o _
   cases h0:(M.ob y).isSome with
   | true=>
    rw [h0] at h4;have HW:Hid ((decide (y=0) || (M.ob y).isSome)=true):=by show _=_;rw [h0];simp
    have HL:=aA (h2.o HW.o);clear d h2 h0;go_in;go_wp2_with fail;go_fit h1;rintro e _ ⟨rfl,rfl⟩;go_wp2_with fail;go_fit h4;rintro e _ ⟨rfl,rfl⟩;go_wp2_with fail;go_fit HL.o;rintro e w9 ⟨rfl,hd⟩;have h5:=aA hd;clear hd;go_wp2;refine hR.o _ _ ?_;rw [HW.o];exact h5.o _
   | false=>
    rw [h0] at h4;have HW:Hid ((decide (y=0) || (M.ob y).isSome)=false):=by show _=_;rw [h0];simp [y0]
    clear d h2 h0;go_in;go_wp2_with fail;go_fit h1;rintro e _ ⟨rfl,rfl⟩;go_wp2_with fail;go_fit h4;rintro e _ ⟨rfl,rfl⟩;go_wp2;refine hR.o _ _ ?_;rw [HW.o];exact HD.o _
theorem aKt (w w3:World) (h0:aI (fun k=>L k≠none) w w3) (h:bJ w3 L hb ⟨M.P.move.2.2.2,M.ob⟩ X) (z:M.Ok) (he:M.P.move.2.2.1=0) {i:Nat} (hi:i<193) {o:Th} (d:M.ob (i:Int)=some o) {m:Nat} (hm:m<o.blocks.length) (hf:gI o.blocks m=M.P.move.1) (y:∀ j,j<m->gI o.blocks j≠M.P.move.1) {g n cap:Nat} (hv:X.bv i=.slice (some ⟨g,0,none⟩) n cap) :
  Calls prog 214 #[.pointer (some ⟨hb,0,none⟩),.int .i64 i] (w3.setCell ⟨g,m,none⟩ (.int .i64 M.P.move.2.1)) (fun e w'=>e=.returned (.tuple #[])/\
   lW w L hb (.tuple #[.int .i64 M.move.1,.int .i64 M.move.2.1]) M.move.2.2 (.returned (.tuple #[.int .i64 i,.int .i64 0])) w'):=by
 have h3:o.place M.P.move.1=m:=lD hm (by simp [hf]) (fun j hj=>by have:=y j hj;simpa using this);have h8:o.place M.P.move.1<o.blocks.length:=by omega
 have h2:=uH z he d h8;rw [h3] at h2;have h5:=z.eX he d hm hf;have h6:(Hp.eX M.P.move.2.2.2 M.ob i o m M.P.move.2.1).ob (i:Int)=some (o.moved m M.P.move.2.1):=aZ _ _ _;have hg:=bJ.setBlock (P:=M.P.move.2.2.2) (ob:=M.ob) h d hv m M.P.move.2.1;have h4:L g=some (.bl i):=(h.th i o d).Lb g (by rw [hv];rfl);refine (aBZ _ hg z.p.move.1 hi (aZ _ _ _) (h5.aMB h6)).mono ?_;rintro e w' ⟨rfl,h1,h7⟩;rw [z.aJX he d hm hf] at h1;rw [h2];exact ⟨rfl,rfl,L,X,h1,fun k z=>.inl z,(h0.set (p:=⟨g,m,none⟩) (.inl (by show L g≠none;rw [h4];simp)) _).trans h7 (fun x hx=>.inl (fun e=>by rw [e] at hx;rcases hx with h|h|h|h<;>cases h))⟩
theorem aKs (w:World) (h:bJ w L hb M X) (hk:M.Ok) :
  Calls prog 228 #[.pointer (some ⟨hb,0,none⟩)] w (lW w L hb (.tuple #[.int .i64 M.move.1,.int .i64 M.move.2.1]) M.move.2.2):=by
 refine aF fun R hR=>?_;have h1:=fM w h;have c1:=h.cells.2.1;have x7:=yE w X.q X.k X.c X.l M.P h.pool hk.p;have y2:Hid (∀ w3,aI (fun k=>L k≠none) w w3->bJ w3 L hb ⟨M.P.move.2.2.2,M.ob⟩ X->M.P.move.2.2.1=0->∀ (i:Nat),i<193->∀ (o:Th),M.ob (i:Int)=some o->∀ m,m<o.blocks.length->gI o.blocks m=M.P.move.1->(∀ j,j<m->gI o.blocks j≠M.P.move.1)->∀ (g n cap:Nat),X.bv i=.slice (some ⟨g,0,none⟩) n cap->
  Calls prog 214 #[.pointer (some ⟨hb,0,none⟩),.int .i64 i] (w3.setCell ⟨g,m,none⟩ (.int .i64 M.P.move.2.1)) (fun e w'=>e=.returned (.tuple #[])/\
   lW w L hb (.tuple #[.int .i64 M.move.1,.int .i64 M.move.2.1]) M.move.2.2 (.returned (.tuple #[.int .i64 i,.int .i64 0])) w')):=
  fun w3 a1 a2 a3 i a4 o a5 m a6 a7 a8 g n cap a9=>aKt w w3 a1 a2 hk a3 a4 a5 a6 a7 a8 a9
 obtain ⟨fr,x4⟩:∃ z,z=M.P.move.1:=⟨_,rfl⟩;obtain ⟨b4,y7⟩:∃ z,z=M.P.move.2.1:=⟨_,rfl⟩;obtain ⟨er,x3⟩:∃ z,z=M.P.move.2.2.1:=⟨_,rfl⟩;obtain ⟨Q,hQ⟩:∃ z,z=M.P.move.2.2.2:=⟨_,rfl⟩;rw [<-x4,<-y7,<-x3,<-hQ] at x7 y2;have H:=aA h;have HK:=aA hk;have z3:=aA x4;have h5:=aA x3;have HQ:=aA hQ;clear h hk x4 y7 x3 hQ;go_in;go_wp2_with fail;go_fit h1;rintro e _ ⟨rfl,rfl⟩;clear h1;go_wp2_with fail;go_fit x7;rintro e w3 ⟨rfl,y6,x8⟩;have h0:Hid (bJ w3 L hb ⟨Q,M.ob⟩ X):=bJ.gK (P:=M.P) (ob:=M.ob) H.o x8 y6;have h8:Hid (aI (fun k=>L k≠none) w w3):=(bJ.aCW (P:=M.P) (ob:=M.ob) H.o x8).mono (fun x hx=>.inl (fun e=>by rw [e] at hx;rcases hx with h|h|h|h<;>cases h))
 clear x7 y6 x8 c1
 by_cases he:er=0
 ·subst he;have y5:bJ w3 L hb ⟨Q,M.ob⟩ X:=h0.o;have c0:=y5.cells.1;obtain ⟨og,x9⟩:∃ z,z=X.og:=⟨_,rfl⟩;rw [<-x9] at c0;have y1:=aA x9;clear y5 x9;go_wp2;go_loopw [7] (fun iv wr=>∃ k:Nat,k<=192/\iv=.int .i64 ((k:Int)+1)/\w3=wr/\Hid (∀ j:Nat,j<k->∀ o,M.ob ((j:Int)+1)=some o->¬ o.place fr<o.blocks.length)) (fun iv _=>193 - (intOf iv).toNat)
  case atStart=>exact ⟨0,by omega,rfl,rfl,fun j hj=>by omega⟩
  case round=>
   obtain ⟨k,hk,rfl,rfl,HF⟩:=hrel
   by_cases a0:k<192
   ·have z7:Hid (((k+1:Nat):Int)=(k:Int)+1):=by show _=_;omega
    obtain ⟨i,hi⟩:∃ z:Nat,z=k+1:=⟨_,rfl⟩;have HI:=aA hi;have b3:(i:Int)<193:=by omega
    have b2:(0:Int)<=i:=by omega
    have x5:i<193:=by omega
    have x6:((k:Int)+1)=(i:Int):=by omega
    rw [x6];have h3:=aA x6;clear hi x6
    cases d:M.ob (i:Int) with
    | none=>
     have c4:=h0.o.obj x5 (j:=4) (by omega);rw [show (⟨Q,M.ob⟩:Hp).ob (i:Int)=none from d,<-y1.o] at c4;replace c4:w3.cell? ⟨og,i*5+4,none⟩=some (.slice none 0 0):=c4;have h7:Hid (∀ o,M.ob ((k:Int)+1)=some o->¬ o.place fr<o.blocks.length):=fun o ho=>by rw [h3.o,d] at ho;cases ho
     clear d;go_wp2;go_loopw [9] (fun iv wr=>iv=.int .i64 0/\w3=wr) (fun iv _=>0)
     case atStart=>exact ⟨rfl,rfl⟩
     case round=>
      obtain ⟨rfl,rfl⟩:=hrel;go_wp2;refine ⟨⟨k+1,by omega,by have:=h3.o;go_num,by trivial,fun j hj=>?_⟩,by have:=h3.o;simp [intOf];omega⟩
      by_cases e:j=k
      ·rw [e];exact h7.o
      exact HF.o j (by omega)
    | some o=>
     obtain ⟨_,_,_,_,c4⟩:=bJ.iW (M:=⟨Q,M.ob⟩) h0.o x5 d;have h9:=h0.o.th (i:Int) o d;obtain ⟨bg,bc,be,y3⟩:=h9.bl.cellsOf (HK.o.aCn d).1;rw [be,<-y1.o] at c4;have y4:∀ j,w3.frozen? ⟨bg,j,none⟩=false:=by
      have:=h9.bl;rw [be] at this;obtain ⟨_,_,cs,y9,_⟩:=this.row;exact fun j=>y9.free j
     obtain ⟨bn,x2⟩:∃ z,z=o.blocks.length:=⟨_,rfl⟩;have h4:=aA x2;have z8:bn<=7:=by have:=(HK.o.aCn d).2.1;omega
     have z1:=aA be;have z0:=aA y3;have z4:=aA y4;have y0:=aA d;rw [<-x2] at c4;clear h9 be y3 y4 x2 d;go_wp2;go_loopw [9] (fun iv wr=>∃ m:Nat,m<=bn/\iv=.int .i64 m/\w3=wr/\Hid (∀ j:Nat,j<m->gI o.blocks j≠fr)) (fun iv _=>bn - (intOf iv).toNat)
     case atStart=>exact ⟨0,by omega,rfl,rfl,fun j hj=>by omega⟩
     case round=>
      obtain ⟨m,hm,rfl,rfl,h6⟩:=hrel
      by_cases b1:m<bn
      ·have z5:(m:Int)<bn:=by omega
       have b0:(0:Int)<=m:=by omega
       have z6:=z0.o m (by have:=h4.o;omega);have z9:=z4.o m;obtain ⟨y,hy⟩:∃ y,y=gI o.blocks m:=⟨_,rfl⟩;rw [<-hy] at z6;have HY:=aA hy
       by_cases y8:y=fr
       ·subst y8;have HL:=aA (y2.o w3 h8.o h0.o (by trivial) i x5 o y0.o m (by have:=h4.o;omega) HY.o.symm h6.o bg _ bc z1.o);clear hy;go_wp2_with fail;go_fit HL.o;rintro e w9 ⟨rfl,hd⟩;have z2:=aA hd;clear hd;go_wp2;exact hR.o _ _ z2.o
       clear hy;go_wp2;refine ⟨⟨m+1,by omega,by go_num,by trivial,fun j hj=>?_⟩,by simp [intOf];omega⟩
       by_cases e:j=m
       ·rw [e,<-HY.o];exact y8
       exact h6.o j (by omega)
      obtain rfl:m=bn:=by omega
      have z5:¬ (m:Int)<(m:Int):=by omega
      have h7:Hid (∀ o,M.ob ((k:Int)+1)=some o->¬ o.place fr<o.blocks.length):=fun o' ho hp=>by
       rw [h3.o,y0.o] at ho
       cases ho
       exact h6.o _ (by rw [h4.o];exact hp) (Th.oU hp)
      go_wp2;refine ⟨⟨k+1,by omega,by have:=h3.o;go_num,by trivial,fun j hj=>?_⟩,by have:=h3.o;simp [intOf];omega⟩
      by_cases e:j=k
      ·rw [e];exact h7.o
      exact HF.o j (by omega)
   obtain rfl:k=192:=by omega
   have HM:Hid (M.move=(0,0,⟨M.P.move.2.2.2,M.ob⟩)):=yU h5.o.symm (fun h o ho=>by
    have:=HK.o.hr h o ho;have h2:=HF.o (h.toNat - 1) (by omega) o (by rw [show (((h.toNat - 1:Nat):Int)+1)=h by omega];exact ho);rw [<-z3.o];exact h2)
   have HD:Hid (lW w L hb (.tuple #[.int .i64 0,.int .i64 0]) ⟨M.P.move.2.2.2,M.ob⟩ (.returned (.tuple #[.int .i64 0,.int .i64 0])) w3):=⟨rfl,L,X,by rw [<-HQ.o];exact h0.o,fun k hk=>.inl hk,h8.o⟩;clear HF;go_wp2;refine hR.o _ _ ?_;rw [HM.o];exact HD.o
 have x1:=aFT (M:=M) (by rw [<-h5.o];exact he);have HM:Hid (M.move=(0,er,M)):=by show _=_;rw [x1.1,h5.o]
 have HD:Hid (lW w L hb (.tuple #[.int .i64 0,.int .i64 er]) M (.returned (.tuple #[.int .i64 0,.int .i64 er])) w3):=⟨rfl,L,X,by have:=h0.o;rw [HQ.o,x1.2] at this;exact this,fun k hk=>.inl hk,h8.o⟩;clear x1;go_wp2;refine hR.o _ _ ?_;rw [HM.o];exact HD.o
end
def aCX:Value:=.agg #[.int .i64 0,.int .i64 0,.slice none 0 0,.slice none 0 0,.slice none 0 0]
theorem aKa:(prog.info? 217).map (fun i=>(i.zero,i.size,i.bytes))=some (some aCX,5,88):=by kernel_rfl
theorem aMy {n i j:Nat} (hi:i<n) (y:j<5):(madeCells aCX.cells (n*5)).toList[i*5+j]?=some (oI none (.slice none 0 0) (.slice none 0 0) (.slice none 0 0) j):=by
 have z:aCX.cells.size=5:=rfl;have hx:i*5+j<n*5:=by omega
 have e:(i*5+j) % 5=j:=by omega
 have d:aCX.cells[j]?=some (oI none (.slice none 0 0) (.slice none 0 0) (.slice none 0 0) j):=by
  match j,y with
  | 0,_=>rfl
  | 1,_=>rfl
  | 2,_=>rfl
  | 3,_=>rfl
  | 4,_=>rfl
  | j+5,y=>omega
 rw [Array.getElem?_toList];unfold madeCells;rw [Array.getElem?_map,show (Array.range (n*5))[i*5+j]?=some (i*5+j) by simp [hx]];simp only [Option.map_some,z];rw [getElem!_def,e,d]
theorem bJ.start {w':World} {hb z q k c l v T T2:Nat} {P:Pl} {cs:List Value} (hp:fA w' q k c l P) (hr:Row w' hb T [.slice (some ⟨z,0,none⟩) 193 193,.pointer (some ⟨q,0,none⟩)]) (ho:Row w' z T2 cs)
  (hc:∀ i:Nat,i<193->∀ j,j<5->cs[i*5+j]?=some (oI none (.slice none 0 0) (.slice none 0 0) (.slice none 0 0) j))
  (h1:v<=q/\v<=k/\v<=c/\v<=l/\v<=z/\v<=hb) (d1:q≠z/\k≠z/\c≠z/\l≠z/\q≠hb/\k≠hb/\c≠hb/\l≠hb/\z≠hb) :
  ∃ d X',bJ w' d hb ⟨P,fun _=>none⟩ X'/\(∀ k,d k≠none->v<=k):=by
 obtain ⟨n1,n2,n3,n4,n5,n6⟩:=hp.ne;obtain ⟨_,_,_,_,_,_,_,_,_,f1,f2,f3,f4⟩:=hp.facts;obtain ⟨e1,e2,e3,e4,e5,e6,e7,e8,e9⟩:=d1;have h0:=hr.lt;have h2:=ho.lt;obtain ⟨d,y⟩:∃ d:Nat->Option Gb,d=fun j=>if j=hb then some .mem else if j=z then some .objs else if j=q then some .pq else if j=k then some .pk else if j=c then some .pc else if j=l then some .pl else none:=⟨_,rfl⟩;have e:∀ j,d j≠none->j=hb\/j=z\/j=q\/j=k\/j=c\/j=l:=fun j hj=>by
  rw [y] at hj;simp only at hj
  by_cases a1:j=hb
  ·exact .inl a1
  by_cases a2:j=z
  ·exact .inr (.inl a2)
  by_cases a3:j=q
  ·exact .inr (.inr (.inl a3))
  by_cases a4:j=k
  ·exact .inr (.inr (.inr (.inl a4)))
  by_cases a5:j=c
  ·exact .inr (.inr (.inr (.inr (.inl a5))))
  by_cases a6:j=l
  ·exact .inr (.inr (.inr (.inr (.inr a6))))
  simp [a1,a2,a3,a4,a5,a6] at hj
 refine ⟨d,⟨q,k,c,l,z,193,fun _=>.slice none 0 0,fun _=>.slice none 0 0,fun _=>.slice none 0 0⟩,⟨fun j hj=>?_,⟨T,hr⟩,by rw [y];simp,hp,by rw [y];simp [*],by rw [y];simp [*,Ne.symm n1],by rw [y];simp [*,Ne.symm n2,Ne.symm n4],by rw [y];simp [*,Ne.symm n3,Ne.symm n5,Ne.symm n6],⟨T2,cs,ho,hc⟩,by rw [y];simp [*],fun h o hk=>by cases hk⟩,fun j hj=>?_⟩
 ·rcases e j hj with rfl|rfl|rfl|rfl|rfl|rfl<;>assumption
 rcases e j hj with rfl|rfl|rfl|rfl|rfl|rfl<;>omega
theorem aMS (w:World) (n:Int) (h:n<1\/24<n):Calls prog 89 #[.int .i64 n] w (aO w (.tuple #[.pointer none,.int .i64 1])):=by
 refine aF fun R z=>?_;have y:=aMi w n h;clear h;go_in;go_wp2_with fail;go_fit y;rintro e _ ⟨rfl,rfl⟩;go_wp2;exact z.o _ _ ⟨rfl,rfl⟩
theorem aDG (w:World) (n:Nat) (h1:1<=n) (h3:n<=24):Calls prog 89 #[.int .i64 n] w fun e w'=>
  ∃ hb L X,e=.returned (.tuple #[.pointer (some ⟨hb,0,none⟩),.int .i64 0])/\bJ w' L hb (Hp.new n) X/\(∀ k,L k≠none->w.heap.size<=k)/\Only [] w w':=by
 refine aF fun R hR=>?_;have h2:=aMh w n h1 h3;obtain ⟨i0,h4,h7,d,h8⟩:=info_parts aKa;obtain ⟨C,hC⟩:∃ C:Array Value,C=madeCells aCX.cells (193*5):=⟨_,rfl⟩;have h9:∀ wx,(Instr.makeSlice 207 (.int .i64 193) (.int .i64 193)).run prog wx=.ok (.slice (some ⟨wx.heap.size,0,none⟩) 193 193) (wx.alloc (.cells C 217)):=fun wx=>by
  rw [run_makeSlice (P:=prog) (w:=wx) 207 217 i0 _ Tryz.underlying207 h4 h7 .i64 .i64 _ _ (by omega) (by omega) (by rw [d];omega) (by rw [h8];omega) (by omega),d];rw [hC];rfl
 have HC:Hid (∀ i:Nat,i<193->∀ j,j<5->C.toList[i*5+j]?=some (oI none (.slice none 0 0) (.slice none 0 0) (.slice none 0 0) j)):=fun i hi j hj=>by rw [hC];exact aMy hi hj
 clear hC h1 h3 h4 h7 d h8;go_in;go_wp2_with fail;go_fit h2;rintro e y ⟨q,k,c,l,rfl,hp,ho,u1,u2,u3,u4⟩;obtain ⟨_,_,_,_,_,_,_,_,_,f1,f2,f3,f4⟩:=hp.facts;have h5:=hp.only (((Only.refl [] y).alloc (.cells C 217)).alloc (.cells #[.slice (some ⟨y.heap.size,0,none⟩) 193 193,.pointer (some ⟨q,0,none⟩)] 209)) (by simp) (by simp) (by simp) (by simp);have z:Row ((y.alloc (.cells C 217)).alloc (.cells #[.slice (some ⟨y.heap.size,0,none⟩) 193 193,.pointer (some ⟨q,0,none⟩)] 209)) (y.heap.size+1) 209 [.slice (some ⟨y.heap.size,0,none⟩) 193 193,.pointer (some ⟨q,0,none⟩)]:=by
  have:=Row.new (y.alloc (.cells C 217)) 209 [.slice (some ⟨y.heap.size,0,none⟩) 193 193,.pointer (some ⟨q,0,none⟩)];rwa [World.size_alloc] at this
 have h0:Row ((y.alloc (.cells C 217)).alloc (.cells #[.slice (some ⟨y.heap.size,0,none⟩) 193 193,.pointer (some ⟨q,0,none⟩)] 209)) y.heap.size 217 C.toList:=(Row.new y 217 C.toList).alloc _;have hO:Only [] w ((y.alloc (.cells C 217)).alloc (.cells #[.slice (some ⟨y.heap.size,0,none⟩) 193 193,.pointer (some ⟨q,0,none⟩)] 209)):=(ho.alloc _).alloc _;have h6:=ho.size;obtain ⟨L1,X1,q1,q2⟩:=bJ.start (v:=w.heap.size) h5 z h0 HC.o ⟨u1,u2,u3,u4,h6,by omega⟩ ⟨by omega,by omega,by omega,by omega,by omega,by omega,by omega,by omega,by omega⟩;have Q1:=aA q1;have Q2:=aA q2;have QO:=aA hO;clear h2 hp h5 z h0 hO q1 q2 u1 u2 u3 u4 f1 f2 f3 f4 h6 ho;go_wp2;exact hR.o _ _ ⟨_,L1,X1,rfl,Q1.o,Q2.o,QO.o⟩
set_option maxHeartbeats 3200000
theorem Only.bel {w w':World} (h:Only [] w w'):Below w.heap.size w w':=h.below (Nat.le_refl _) (by simp)
end Go.Proofs.YthflghdaejbdkaaGreat
namespace Go.Proofs.YthflghdaejbdkaaGreat
open _root_.Go.Proofs.Tryz (prog)
open Go.RowKit Go.Maps
set_option maxRecDepth 100000
set_option linter.unusedVariables false
structure Asn where
 holds:World->(Nat->Prop)->Prop
 keep:∀ {w w':World} {S T:Nat->Prop},holds w S->aI T w w'->(∀ k,T k->¬ S k)->holds w' S
 lt:∀ {w:World} {S:Nat->Prop} {k:Nat},holds w S->S k->k<w.heap.size
def Fam (w0 w:World) (l:List Asn):Prop:=
 Only [] w0 w/\∃ S:Nat->Nat->Prop,(∀ (i:Nat) (A:Asn),l[i]?=some A->A.holds w (S i))/\(∀ i j,i<l.length->j<l.length->i≠j->∀ k,S i k->¬ S j k)/\(∀ i,i<l.length->∀ k,S i k->w0.heap.size<=k)
def aTW (w:World) (S:Nat->Prop) (A':Asn) (r:Value) (e:Ending) (w':World):Prop:=
 e=.returned r/\∃ y,A'.holds w' y/\(∀ k,y k->S k\/w.heap.size<=k)/\aI S w w'
def aGw (w w':World) (A:Asn):Prop:=Only [] w w'/\∃ S,A.holds w' S/\∀ k,S k->w.heap.size<=k
section
variable {w0 w w' w1:World} {l:List Asn} {A A':Asn}
theorem Fam.only (h:Fam w0 w l):Only [] w0 w:=h.1
theorem Fam.nil (w:World):Fam w w []:=⟨Only.refl _ _,fun _ _=>False,fun i A h=>by simp at h,fun i j h=>by simp at h,fun i h=>by simp at h⟩
theorem Fam.cell (h:Fam w0 w l) {a:Addr} {v:Value} (y:w0.cell? a=some v):w.cell? a=some v:=h.1.cell y (by simp)
theorem Fam.get (h:Fam w0 w l) (i:Nat) (y:l[i]?=some A):∃ S,A.holds w S/\∀ k,S k->w0.heap.size<=k:=by
 obtain ⟨_,S,z,_,d⟩:=h;exact ⟨S i,z i A y,d i (List.getElem?_eq_some_iff.1 y).1⟩
theorem Fam.dB {T:Nat->Prop} (h:Fam w0 w l) (z:aI T w w') (hT:∀ k,T k->k<w0.heap.size->False) (hd:∀ (i:Nat) (A:Asn) (S:Nat->Prop),l[i]?=some A->A.holds w S->∀ k,T k->¬ S k):Fam w0 w' l:=by
 obtain ⟨y,S,h1,h2,h3⟩:=h;exact ⟨⟨z.os.trans y.os,z.tape.trans y.tape,z.output.trans y.output,Nat.le_trans y.size z.size,fun k e hn=>by
  rw [z.block k (Nat.lt_of_lt_of_le e y.size) (fun x=>hT k x e)];exact y.block k e hn⟩,S,fun i A d=>A.keep (h1 i A d) z (hd i A (S i) d (h1 i A d)),h2,h3⟩
theorem Fam.aK (h:Fam w0 w l) (y:Only [] w w'):Fam w0 w' l:=
 h.dB (T:=fun _=>False) y.vU (fun _ x=>x.elim) (fun _ _ _ _ _ _ x=>x.elim)
theorem Fam.drew (h:Fam w0 w l):Fam w0 w.drew l:=h.aK (Only.refl _ _).drew
theorem Fam.drewN (h:Fam w0 w l) (n:Nat):Fam w0 (w.drewN n) l:=h.aK ((Only.refl _ _).drewN n)
theorem Fam.alloc (h:Fam w0 w l) (o:Obj):Fam w0 (w.alloc o) l:=h.aK ((Only.refl _ _).alloc o)
theorem Fam.step {P:Program} (h:Fam w0 w l) (i:Nat) (hi:l[i]?=some A) {F:FuncId} {h7:Array Value} {r:Value} (hc:∀ S,A.holds w S->Calls P F h7 w (aTW w S A' r)) :
  Calls P F h7 w (fun e w1=>e=.returned r/\Fam w0 w1 (l.set i A')):=by
 obtain ⟨h0,S,h1,h2,h3⟩:=h;refine (hc (S i) (h1 i A hi)).mono fun e w1 ht=>?_;have y:=(List.getElem?_eq_some_iff.1 hi).1;obtain ⟨he,S',hA,hS,ho⟩:=ht;refine ⟨he,⟨ho.os.trans h0.os,ho.tape.trans h0.tape,ho.output.trans h0.output,Nat.le_trans h0.size ho.size,fun k d hn=>by
  rw [ho.block k (Nat.lt_of_lt_of_le d h0.size) (fun x=>by have:=h3 i y k x;omega)];exact h0.block k d hn⟩,fun j=>if j=i then S' else S j,fun j B hj=>?_,fun a b ha hb hab k=>?_,fun j hj k d=>?_⟩
 ·try simp only
  by_cases e:j=i
  ·rw [if_pos e];rw [e,List.getElem?_set_self y] at hj
   cases hj
   exact hA
  rw [if_neg e];rw [List.getElem?_set_ne (fun x=>e x.symm)] at hj;exact B.keep (h1 j B hj) ho (h2 i j y (List.getElem?_eq_some_iff.1 hj).1 (fun x=>e x.symm))
 ·rw [List.length_set] at ha hb
  try simp only
  intro h4 h5
  by_cases e1:a=i
  ·by_cases e2:b=i
   ·exact hab (e1.trans e2.symm)
   rw [if_pos e1] at h4;rw [if_neg e2] at h5;rcases hS k h4 with z|z
   ·exact h2 i b y hb (fun x=>e2 x.symm) k z h5
   have:=(l[b]'hb).lt (h1 b _ (List.getElem?_eq_getElem hb)) h5;omega
  by_cases e2:b=i
  ·rw [if_neg e1] at h4;rw [if_pos e2] at h5;rcases hS k h5 with z|z
   ·exact h2 i a y ha (fun x=>e1 x.symm) k z h4
   have:=(l[a]'ha).lt (h1 a _ (List.getElem?_eq_getElem ha)) h4;omega
  rw [if_neg e1] at h4;rw [if_neg e2] at h5;exact h2 a b ha hb hab k h4 h5
 rw [List.length_set] at hj
 try simp only at d
 by_cases e:j=i
 ·rw [if_pos e] at d;rcases hS k d with z|z
  ·exact h3 i y k z
  have:=h0.size;omega
 rw [if_neg e] at d;exact h3 j hj k d
theorem Fam.add (h:Fam w0 w l) (hb:aGw w w' A):Fam w0 w' (l ++ [A]):=by
 obtain ⟨ho,T,hA,hT⟩:=hb;obtain ⟨h0,S,h1,h2,h3⟩:=h;have h6:∀ i,i<l.length->∀ k,S i k->k<w.heap.size:=fun i hi k hk=>(l[i]'hi).lt (h1 i _ (List.getElem?_eq_getElem hi)) hk;refine ⟨h0.trans ho (by simp),fun j=>if j=l.length then T else S j,fun j B hj=>?_,fun a b ha hb hab k=>?_,fun j hj k hk=>?_⟩
 ·try simp only
  by_cases e:j=l.length
  ·rw [if_pos e];rw [e] at hj;simp at hj;rw [<-hj];exact hA
  rw [if_neg e];have h7:j<l.length:=by
   have:=(List.getElem?_eq_some_iff.1 hj).1;simp at this;omega
  rw [List.getElem?_append_left h7] at hj;exact B.keep (h1 j B hj) (ho.vU (S:=fun _=>False)) (fun _ x=>x.elim)
 ·simp at ha hb
  try simp only
  intro y z
  by_cases e1:a=l.length
  ·by_cases d:b=l.length
   ·exact hab (e1.trans d.symm)
   rw [if_pos e1] at y;rw [if_neg d] at z;have:=hT k y;have:=h6 b (by omega) k z;omega
  by_cases d:b=l.length
  ·rw [if_neg e1] at y;rw [if_pos d] at z;have:=hT k z;have:=h6 a (by omega) k y;omega
  rw [if_neg e1] at y;rw [if_neg d] at z;exact h2 a b (by omega) (by omega) hab k y z
 simp at hj
 try simp only at hk
 by_cases e:j=l.length
 ·rw [if_pos e] at hk;have:=hT k hk;have:=h0.size;omega
 rw [if_neg e] at hk;exact h3 j (by omega) k hk
theorem Fam.pop (h:Fam w0 w (l ++ [A])):Fam w0 w l:=by
 obtain ⟨z,S,d,e,h3⟩:=h;refine ⟨z,S,fun i B y=>d i B ?_,fun i j y hj=>e i j (by simp;omega) (by simp;omega),fun i y=>h3 i (by simp;omega)⟩;rw [List.getElem?_append_left (List.getElem?_eq_some_iff.1 y).1];exact y
def eY (b T:Nat) (cs:List Value):Asn:=
 ⟨fun w S=>Row w b T cs/\∀ k,S k↔k=b,fun h ho hd=>⟨ho.row h.1 (fun x=>hd b x ((h.2 b).2 rfl)),h.2⟩,fun h hk=>by rw [(h.2 _).1 hk];exact h.1.lt⟩
theorem Fam.row {b T:Nat} {cs:List Value} (h:Fam w0 w l) (i:Nat) (z:l[i]?=some (eY b T cs)):Row w b T cs:=by
 obtain ⟨S,y,_⟩:=h.get i z;exact y.1
theorem Fam.addRow (h:Fam w0 w l) (T:Nat) (cs:List Value):Fam w0 (w.alloc (.cells cs.toArray T)) (l ++ [eY w.heap.size T cs]):=
 h.add ⟨(Only.refl [] w).alloc _,fun k=>k=w.heap.size,⟨Row.new w T cs,fun k=>Iff.rfl⟩,fun k hk=>by rw [hk];exact Nat.le_refl _⟩
def bT (v:Value) (l:List Int):Asn:=
 ⟨fun w S=>aN w 0 v l/\∀ k,S k↔v.ownBlock=some k,fun h ho hd=>⟨h.1.dB ho (fun k hk x=>hd k x ((h.2 k).2 hk)),h.2⟩,fun h hk=>(h.1.own _ ((h.2 _).1 hk)).2⟩
theorem Fam.ints {v:Value} {m:List Int} (h:Fam w0 w l) (i:Nat) (z:l[i]?=some (bT v m)):aN w 0 v m:=by
 obtain ⟨S,y,_⟩:=h.get i z;exact y.1
theorem Fam.gY {v:Value} {m:List Int} (h:Fam w0 w l) (z:Only [] w w') (y:aN w' w.heap.size v m):Fam w0 w' (l ++ [bT v m]):=
 h.add ⟨z,fun k=>v.ownBlock=some k,⟨y.base (Nat.zero_le _),fun k=>Iff.rfl⟩,fun k hk=>(y.own k hk).1⟩
end
set_option maxHeartbeats 6400000
def PH (p:Nat) (M:Hp):Asn:=
 ⟨fun w S=>M.OkF/\∃ L X,dO w L p M X/\∀ k,S k↔L k≠none,
  fun h ho hd=>⟨h.1,by
   obtain ⟨_,L,X,z,y⟩:=h;exact ⟨L,X,z.only ho (fun k d=>by
    cases e:L k with
    | none=>rfl
    | some ℓ=>exact absurd ((y k).2 (by rw [e];simp)) (hd k d)),y⟩⟩,
  fun h d=>by
   obtain ⟨_,L,X,z,y⟩:=h;exact z.lt _ ((y _).1 d)⟩
def GH (q:Nat) (M:Hp):Asn:=
 ⟨fun w S=>M.Ok/\∃ L X,bJ w L q M X/\∀ k,S k↔L k≠none,
  fun h ho hd=>⟨h.1,by
   obtain ⟨_,L,X,z,y⟩:=h;exact ⟨L,X,z.only ho (fun k d=>by
    cases e:L k with
    | none=>rfl
    | some ℓ=>exact absurd ((y k).2 (by rw [e];simp)) (hd k d)),y⟩⟩,
  fun h d=>by
   obtain ⟨_,L,X,z,y⟩:=h;exact z.lt _ ((y _).1 d)⟩
theorem aJT {α:Type} {l:List α} {i:Nat} {a:α} (h:l[i]?=some a):l.set i a=l:=by
 apply List.ext_getElem?;intro j;rw [List.getElem?_set]
 by_cases e:i=j
 ·subst e;rw [if_pos rfl,if_pos (List.getElem?_eq_some_iff.1 h).1,h]
 rw [if_neg e]
theorem rZ {α:Type} {l:List α} {i:Nat} {a b:α} (h:l[i]?=some a):(l ++ [b])[i]?=some a:=by rw [List.getElem?_append_left (List.getElem?_eq_some_iff.1 h).1];exact h
theorem jR {α:Type} (l:List α) (b:α):(l ++ [b])[l.length]?=some b:=by simp
section
variable {w0 w w':World} {l:List Asn} {p q:Nat} {M M':Hp}
theorem Fam.ph (h:Fam w0 w l) (i:Nat) (d:l[i]?=some (PH p M)):M.Ok/\∃ L X,dO w L p M X:=by
 obtain ⟨S,⟨y,L,X,z,_⟩,_⟩:=h.get i d;exact ⟨y.ok,L,X,z⟩
theorem Fam.phF (h:Fam w0 w l) (i:Nat) (z:l[i]?=some (PH p M)):M.OkF:=by
 obtain ⟨S,⟨y,_⟩,_⟩:=h.get i z;exact y
theorem Fam.gh (h:Fam w0 w l) (i:Nat) (d:l[i]?=some (GH q M)):M.Ok/\∃ L X,bJ w L q M X:=by
 obtain ⟨S,⟨y,L,X,z,_⟩,_⟩:=h.get i d;exact ⟨y,L,X,z⟩
theorem Fam.aCU (h:Fam w0 w l) (i:Nat) (hi:l[i]?=some (PH p M)) {F:FuncId} {y:Array Value} {r:Value} (d:M.OkF->M'.OkF) (hc:∀ L X,dO w L p M X->M.Ok->Calls prog F y w (wJ w L p r M')) :
  Calls prog F y w (fun e w1=>e=.returned r/\Fam w0 w1 (l.set i (PH p M'))):=
 h.step i hi (A':=PH p M') fun S ⟨z,L,X,h1,h2⟩=>(hc L X h1 z.ok).mono fun e w1 ⟨he,L',X',h3,h4,h5⟩=>
  ⟨he,fun k=>L' k≠none,⟨d z,L',X',h3,fun k=>Iff.rfl⟩,fun k z=>(h4 k z).imp (fun x=>(h2 k).2 x) id,h5.mono (fun k z=>.inl ((h2 k).2 z))⟩
theorem Fam.aDA (h:Fam w0 w l) (i:Nat) (hi:l[i]?=some (GH q M)) {F:FuncId} {y:Array Value} {r:Value} (d:M.Ok->M'.Ok) (hc:∀ L X,bJ w L q M X->M.Ok->Calls prog F y w (lW w L q r M')) :
  Calls prog F y w (fun e w1=>e=.returned r/\Fam w0 w1 (l.set i (GH q M'))):=
 h.step i hi (A':=GH q M') fun S ⟨z,L,X,h1,h2⟩=>(hc L X h1 z).mono fun e w1 ⟨he,L',X',h3,h4,h5⟩=>
  ⟨he,fun k=>L' k≠none,⟨d z,L',X',h3,fun k=>Iff.rfl⟩,fun k z=>(h4 k z).imp (fun x=>(h2 k).2 x) id,h5.mono (fun k z=>.inl ((h2 k).2 z))⟩
theorem aOz {L:Nat->Option Lb} {X:HX} (h:dO w' L p M X) (z:M.OkF) (y:∀ k,L k≠none->w.heap.size<=k) (d:Only [] w w'):aGw w w' (PH p M):=
 ⟨d,fun k=>L k≠none,⟨z,L,X,h,fun k=>Iff.rfl⟩,y⟩
theorem aPg {L:Nat->Option Gb} {X:GX} (h:bJ w' L q M X) (z:M.Ok) (y:∀ k,L k≠none->w.heap.size<=k) (d:Only [] w w'):aGw w w' (GH q M):=
 ⟨d,fun k=>L k≠none,⟨z,L,X,h,fun k=>Iff.rfl⟩,y⟩
end
