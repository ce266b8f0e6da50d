/- Lemmas of this claim. -/
import Derived.Test.YthflghdaejbdkaaGreatXcObjG
import Derived.Test.YthflghdaejbdkaaGreatXcRBlockE
namespace Go.Proofs.YthflghdaejbdkaaGreat
open _root_.Go.Proofs.Tryz (prog)
open Go.RowKit Go.Maps
set_option maxHeartbeats 1600000
set_option maxRecDepth 100000
set_option linter.unusedVariables false
inductive Gb|mem|pq|pk|pc|pl|objs|rb (h:Int)|sl (h:Int)|bl (h:Int)
 deriving DecidableEq
def nT (o:Option Th) (rv sv bv:Value):Nat->Value
 | 0=>.int .i64 (match o with|none=>0|some o=>o.kind)
 | 1=>.int .i64 (match o with|none=>0|some o=>o.cls)
 | 2=>match o with|none=>.slice none 0 0|some _=>rv
 | 3=>match o with|none=>.slice none 0 0|some _=>sv
 | _=>match o with|none=>.slice none 0 0|some _=>bv
structure GX where
 q:Nat
 k:Nat
 c:Nat
 l:Nat
 og:Nat
 oc:Nat
 rv:Int->Value
 sv:Int->Value
 bv:Int->Value
structure GTh (w:World) (L:Nat->Option Gb) (h:Int) (rv sv bv:Value) (o:Th):Prop where
 rb:Bls w 0 rv o.refs
 Lr:∀ g,rv.ownBlock=some g->L g=some (.rb h)
 sl:aK w 0 sv o.slots
 Ls:∀ g,sv.ownBlock=some g->L g=some (.sl h)
 bl:aK w 0 bv o.blocks
 Lb:∀ g,bv.ownBlock=some g->L g=some (.bl h)
structure bH (w:World) (L:Nat->Option Gb) (hb:Nat) (M:Hp) (X:GX):Prop where
 lt:∀ k,L k≠none->k<w.heap.size
 mem:∃ T,Row w hb T [.slice (some ⟨X.og,0,none⟩) 193 X.oc,.pointer (some ⟨X.q,0,none⟩)]
 Lm:L hb=some .mem
 pool:eH w X.q X.k X.c X.l M.P
 Lq:L X.q=some .pq
 Lk:L X.k=some .pk
 Lc:L X.c=some .pc
 Ll:L X.l=some .pl
 ob:∃ T cs,Row w X.og T cs/\∀ i:Nat,i<193->∀ j,j<5->cs[i*5+j]?=some (nT (M.ob i) (X.rv i) (X.sv i) (X.bv i) j)
 Lo:L X.og=some .objs
 th:∀ h o,M.ob h=some o->GTh w L h (X.rv h) (X.sv h) (X.bv h) o
section
variable {w w':World} {S:Nat->Prop} {L L':Nat->Option Gb} {hb:Nat} {M:Hp} {X:GX}
theorem eH.dA {q k c l:Nat} {P:Pl} (h:eH w q k c l P) (o:aI S w w') (h1:¬ S q) (d:¬ S k) (e:¬ S c) (h4:¬ S l):eH w' q k c l P:=
 ⟨by obtain ⟨T,c1,c2,c3,r⟩:=h.hq;exact ⟨T,c1,c2,c3,o.row r h1⟩,h.rk.imp fun _ x=>x.imp fun _ y=>o.row y d,h.rc.imp fun _ x=>x.imp fun _ y=>o.row y e,h.rl.imp fun _ x=>x.imp fun _ y=>o.row y h4,
  fun i z=>o.cell (h.kind i z) d,fun i z j hj=>o.cell (h.cells i z j hj) e,fun i z j hj=>o.cell (h.live i z j hj) h4,h.ne,h.n1,h.n24⟩
theorem GTh.only {h:Int} {rv sv bv:Value} {o:Th} (k:GTh w L h rv sv bv o) (d:aI S w w') (z:∀ x,S x->L x≠some (.rb h)/\L x≠some (.sl h)/\L x≠some (.bl h)):GTh w' L h rv sv bv o:=
 ⟨k.rb.dA d (fun g y x=>(z g x).1 (k.Lr g y)),k.Lr,k.sl.dA d (fun g y x=>(z g x).2.1 (k.Ls g y)),k.Ls,k.bl.dA d (fun g y x=>(z g x).2.2 (k.Lb g y)),k.Lb⟩
theorem bH.only (h:bH w L hb M X) (z:aI S w w') (hS:∀ k,S k->L k=none):bH w' L hb M X:=by
 have y:∀ k ℓ,S k->L k≠some ℓ:=fun k ℓ d e=>by rw [hS k d] at e;cases e
 obtain ⟨T1,m1⟩:=h.mem;obtain ⟨T2,cs,m2,n2⟩:=h.ob;exact ⟨fun k d=>Nat.lt_of_lt_of_le (h.lt k d) z.size,⟨T1,z.row m1 (fun x=>y _ _ x h.Lm)⟩,h.Lm,h.pool.dA z (fun x=>y _ _ x h.Lq) (fun x=>y _ _ x h.Lk) (fun x=>y _ _ x h.Lc) (fun x=>y _ _ x h.Ll),h.Lq,h.Lk,h.Lc,h.Ll,
  ⟨T2,cs,z.row m2 (fun x=>y _ _ x h.Lo),n2⟩,h.Lo,fun k t d=>(h.th k t d).only z (fun x hx=>⟨y x _ hx,y x _ hx,y x _ hx⟩)⟩
theorem bH.aN (h:bH w L hb M X) (y:Only [] w w'):bH w' L hb M X:=h.only (y.xA (S:=fun _=>False)) (fun _ x=>x.elim)
theorem bH.drew (h:bH w L hb M X):bH w.drew L hb M X:=h.only ((aI.refl (fun _=>False) w).drew) (fun _ x=>x.elim)
theorem jW {ℓ:Gb} {g:Nat} (y:∀ k,L k≠none->L' k=L k) (h:L g=some ℓ):L' g=some ℓ:=by rw [y g (by rw [h];simp)];exact h
theorem GTh.lab {h:Int} {rv sv bv:Value} {o:Th} (k:GTh w L h rv sv bv o) (z:∀ k,L k≠none->L' k=L k):GTh w L' h rv sv bv o:=
 ⟨k.rb,fun g y=>jW z (k.Lr g y),k.sl,fun g y=>jW z (k.Ls g y),k.bl,fun g y=>jW z (k.Lb g y)⟩
theorem bH.cells (h:bH w L hb M X):w.cell? ⟨hb,0,none⟩=some (.slice (some ⟨X.og,0,none⟩) 193 X.oc)/\w.cell? ⟨hb,1,none⟩=some (.pointer (some ⟨X.q,0,none⟩))/\(∀ i,w.frozen? ⟨hb,i,none⟩=false)/\(∀ i,w.frozen? ⟨X.og,i,none⟩=false):=by
 obtain ⟨T,y⟩:=h.mem;obtain ⟨d,cs,z,e⟩:=h.ob;exact ⟨y.cell 0 rfl,y.cell 1 rfl,fun i=>y.free i,fun i=>z.free i⟩
theorem bH.obj (h:bH w L hb M X) {i:Nat} (y:i<193) {j:Nat} (z:j<5):w.cell? ⟨X.og,i*5+j,none⟩=some (nT (M.ob i) (X.rv i) (X.sv i) (X.bv i) j):=by
 obtain ⟨T2,cs,d,e⟩:=h.ob;exact d.cell _ (e i y j z)
theorem bH.aOy (h:bH w L hb M X) {i:Nat} (y:i<193) (z:M.ob i=none):w.cell? ⟨X.og,i*5,none⟩=some (.int .i64 0):=by
 have:=h.obj y (j:=0) (by omega);rw [z] at this;exact this
theorem bH.iR (h:bH w L hb M X) {i:Nat} (y:i<193) {o:Th} (ho:M.ob i=some o):w.cell? ⟨X.og,i*5,none⟩=some (.int .i64 o.kind)/\w.cell? ⟨X.og,i*5+1,none⟩=some (.int .i64 o.cls)/\w.cell? ⟨X.og,i*5+2,none⟩=some (X.rv i)/\w.cell? ⟨X.og,i*5+3,none⟩=some (X.sv i)/\w.cell? ⟨X.og,i*5+4,none⟩=some (X.bv i):=by
 have z:=h.obj y (j:=0) (by omega);have d:=h.obj y (j:=1) (by omega);have e:=h.obj y (j:=2) (by omega);have h3:=h.obj y (j:=3) (by omega);have h4:=h.obj y (j:=4) (by omega);rw [ho] at z d e h3 h4;exact ⟨z,d,e,h3,h4⟩
end
theorem uM (w:World):Calls prog 189 #[.pointer none] w (aO w (.bool false)):=by
 refine aF fun R y=>?_;go_in;go_wp2;exact y.out _ _ ⟨rfl,rfl⟩
section
variable {L:Nat->Option Gb} {hb:Nat} {M:Hp} {X:GX}
theorem fM (w:World) (h:bH w L hb M X):Calls prog 189 #[.pointer (some ⟨hb,0,none⟩)] w (aO w (.bool true)):=by
 refine aF fun R y=>?_;have z:=h.cells.2.1;clear h;go_in;go_wp2;exact y.out _ _ ⟨rfl,rfl⟩
theorem aBK (w:World) (h:bH w L hb M X) (d:M.Ok) (x:Int):Calls prog 213 #[.pointer (some ⟨hb,0,none⟩),.int .i64 x] w (aO w (.bool (M.ob x).isSome)):=by
 refine aF fun R z=>?_;have h1:=fM w h;have h2:=h.cells.1
 by_cases hx:1<=x/\x<193
 ·obtain ⟨i,rfl⟩:∃ i:Nat,x=i:=⟨x.toNat,by omega⟩;have hi:i<193:=by omega
  obtain ⟨x1,x2⟩:=hx;have x0:(0:Int)<=i:=by omega
  cases y:M.ob (i:Int) with
  | none=>
   rw [y] at z;have h3:=h.aOy hi y;clear h y d;go_in;go_wp2_with fail;refine h1.mono ?_;rintro e _ ⟨rfl,rfl⟩;go_wp2;exact z.out _ _ ⟨rfl,rfl⟩
  | some o=>
   rw [y] at z;have h3:=(h.iR hi y).1;have h0:(o.kind != 0)=true:=by
    have:=(d.th _ o y).kd;simp;omega
   clear h y d;go_in;go_wp2_with fail;refine h1.mono ?_;rintro e _ ⟨rfl,rfl⟩;go_wp2;exact z.out _ _ ⟨rfl,rfl⟩
 have y:M.ob x=none:=by
  cases y:M.ob x with
  | none=>rfl
  | some o=>exact absurd (d.hr x o y) (by omega)
 rw [y] at z
 by_cases h3:1<=x
 ·have h4:¬ x<193:=by omega
  clear h y d hx;go_in;go_wp2_with fail;refine h1.mono ?_;rintro e _ ⟨rfl,rfl⟩;go_wp2;exact z.out _ _ ⟨rfl,rfl⟩
 clear h y d hx;go_in;go_wp2_with fail;refine h1.mono ?_;rintro e _ ⟨rfl,rfl⟩;go_wp2;exact z.out _ _ ⟨rfl,rfl⟩
end
theorem Hp.Ok.idx {M:Hp} (y:M.Ok) {x:Int} {o:Th} (z:M.ob x=some o):∃ i:Nat,x=(i:Int)/\i<193/\(0:Int)<=i/\(i:Int)<193:=by
 have:=y.hr x o z;exact ⟨x.toNat,by omega,by omega,by omega,by omega⟩
theorem Bls.cellsOf {w:World} {base:Nat} {v:Value} {l:List Bool} (h:Bls w base v l) (y:1<=l.length):∃ g cap,v=.slice (some ⟨g,0,none⟩) l.length cap/\∀ i,i<l.length->w.cell? ⟨g,i,none⟩=some (.bool (gB l i)):=by
 rcases h.form with ⟨_,e⟩|⟨g,cap,e,_,_,_,z⟩
 ·rw [e] at y;simp at y
 exact ⟨g,cap,e,z⟩
theorem aKh (w:World) (x:Int):Calls prog 200 #[.pointer none,.int .i64 x] w (aO w (.int .i64 1)):=by
 refine aF fun R z=>?_;have y:=uM w;go_in;go_wp2_with fail;refine y.mono ?_;rintro e _ ⟨rfl,rfl⟩;go_wp2;exact z.out _ _ ⟨rfl,rfl⟩
theorem aKi (w:World) (x s:Int):Calls prog 212 #[.pointer none,.int .i64 x,.int .i64 s] w (aO w (.int .i64 1)):=by
 refine aF fun R z=>?_;have y:=aKh w x;go_in;go_wp2_with fail;refine y.mono ?_;rintro e _ ⟨rfl,rfl⟩;go_wp2;exact z.out _ _ ⟨rfl,rfl⟩
section
variable {L:Nat->Option Gb} {hb:Nat} {M:Hp} {X:GX}
theorem aDk (w:World) (h:bH w L hb M X) (y:M.Ok) (x:Int):Calls prog 200 #[.pointer (some ⟨hb,0,none⟩),.int .i64 x] w (aO w (.int .i64 (if (M.ob x).isSome then 0 else 3))):=by
 refine aF fun R hR=>?_;have z:=fM w h;have d:=aBK w h y x;clear h y;generalize (M.ob x).isSome=b at *
 cases b<;>(
  go_in;go_wp2_with fail;refine z.mono ?_;rintro e _ ⟨rfl,rfl⟩;go_wp2_with fail;refine d.mono ?_;rintro e _ ⟨rfl,rfl⟩;go_wp2;exact hR.out _ _ ⟨rfl,rfl⟩)
theorem lH (w:World) (h:bH w L hb M X) (y:M.Ok) (x:Int) (z:M.ob x=none):Calls prog 200 #[.pointer (some ⟨hb,0,none⟩),.int .i64 x] w (aO w (.int .i64 3)):=by
 have:=aDk w h y x;rw [z] at this;exact this
theorem lG (w:World) (h:bH w L hb M X) (y:M.Ok) (x:Int) {o:Th} (z:M.ob x=some o):Calls prog 200 #[.pointer (some ⟨hb,0,none⟩),.int .i64 x] w (aO w (.int .i64 0)):=by
 have:=aDk w h y x;rw [z] at this;exact this
theorem uO (w:World) (h:bH w L hb M X) (y:M.Ok) (x s:Int) (z:M.ob x=none):Calls prog 212 #[.pointer (some ⟨hb,0,none⟩),.int .i64 x,.int .i64 s] w (aO w (.int .i64 3)):=by
 refine aF fun R hR=>?_;have d:=lH w h y x z;clear h y z;go_in;go_wp2_with fail;refine d.mono ?_;rintro e _ ⟨rfl,rfl⟩;go_wp2;exact hR.out _ _ ⟨rfl,rfl⟩
theorem aAO (w:World) (h:bH w L hb M X) (hk:M.Ok) (x s:Int) {o:Th} (z:M.ob x=some o):Calls prog 212 #[.pointer (some ⟨hb,0,none⟩),.int .i64 x,.int .i64 s] w (aO w (.int .i64 (if s<0\/(o.slots.length:Int)<=s then 1 else 0))):=by
 refine aF fun R y=>?_;have d:=lG w h hk x z;have h2:=h.cells.1;obtain ⟨i,rfl,hi,x0,x1⟩:=hk.idx z;have h3:=(h.iR hi z).2.2.2.1;obtain ⟨a,c,hs⟩:=(h.th _ o z).sl.len;rw [hs] at h3;clear h hk z hs hi;generalize o.slots.length=n at *
 by_cases b1:s<0
 ·rw [if_pos (.inl b1)] at y;go_in;go_wp2_with fail;refine d.mono ?_;rintro e _ ⟨rfl,rfl⟩;go_wp2;exact y.out _ _ ⟨rfl,rfl⟩
 by_cases b2:(n:Int)<=s
 ·rw [if_pos (.inr b2)] at y;go_in;go_wp2_with fail;refine d.mono ?_;rintro e _ ⟨rfl,rfl⟩;go_wp2;exact y.out _ _ ⟨rfl,rfl⟩
 rw [if_neg (by omega)] at y;go_in;go_wp2_with fail;refine d.mono ?_;rintro e _ ⟨rfl,rfl⟩;go_wp2;exact y.out _ _ ⟨rfl,rfl⟩
theorem zA (w:World) (h:bH w L hb M X) (y:M.Ok) (x s:Int) {o:Th} (z:M.ob x=some o) (hs:s<0\/(o.slots.length:Int)<=s):Calls prog 212 #[.pointer (some ⟨hb,0,none⟩),.int .i64 x,.int .i64 s] w (aO w (.int .i64 1)):=by
 have:=aAO w h y x s z;rwa [if_pos hs] at this
theorem aBH (w:World) (h:bH w L hb M X) (y:M.Ok) (x s:Int) {o:Th} (z:M.ob x=some o) (hs:¬ (s<0\/(o.slots.length:Int)<=s)):Calls prog 212 #[.pointer (some ⟨hb,0,none⟩),.int .i64 x,.int .i64 s] w (aO w (.int .i64 0)):=by
 have:=aAO w h y x s z;rwa [if_neg hs] at this
theorem aFU (w:World) (h:bH w L hb M X) (hk:M.Ok) (x s:Int):Calls prog 182 #[.pointer (some ⟨hb,0,none⟩),.int .i64 x,.int .i64 s] w (aO w (.tuple #[.int .i64 (M.get x s).1,.int .i64 (M.get x s).2])):=by
 refine aF fun R d=>?_;unfold Hp.get at d
 cases z:M.ob x with
 | none=>
  rw [z] at d;have h1:=uO w h hk x s z;clear h hk z;go_in;go_wp2_with fail;refine h1.mono ?_;rintro e _ ⟨rfl,rfl⟩;go_wp2;exact d.out _ _ ⟨rfl,rfl⟩
 | some o=>
  rw [z] at d;simp only at d
  by_cases hs:s<0\/(o.slots.length:Int)<=s
  ·rw [if_pos hs] at d;have h1:=zA w h hk x s z hs;clear h hk z hs;go_in;go_wp2_with fail;refine h1.mono ?_;rintro e _ ⟨rfl,rfl⟩;go_wp2;exact d.out _ _ ⟨rfl,rfl⟩
  rw [if_neg hs] at d;have h1:=aBH w h hk x s z hs;have h2:=h.cells.1;obtain ⟨j,rfl⟩:∃ j:Nat,s=j:=⟨s.toNat,by omega⟩;have hj:j<o.slots.length:=by omega
  have j0:(0:Int)<=j:=by omega
  rw [show (j:Int).toNat=j by omega] at d;obtain ⟨i,rfl,hi,x0,x1⟩:=hk.idx z;have h0:=(hk.th _ o z).rl;have h3:=(h.iR hi z).2.2.2.1;obtain ⟨g,cap,hv,hc⟩:=(h.th _ o z).sl.cellsOf (by omega);rw [hv] at h3;have h4:=hc j hj;obtain ⟨n,hn⟩:∃ n,n=o.slots.length:=⟨_,rfl⟩;rw [<-hn] at h3 hj;have h5:(j:Int)<n:=by omega
  generalize gI o.slots j=y at*;clear h hk z hv hc hi h0 hs hn;go_in;go_wp2_with fail;refine h1.mono ?_;rintro e _ ⟨rfl,rfl⟩;go_wp2;exact d.out _ _ ⟨rfl,rfl⟩
theorem uP (w:World) (h:bH w L hb M X) (hk:M.Ok) (x s:Int):Calls prog 176 #[.pointer (some ⟨hb,0,none⟩),.int .i64 x,.int .i64 s] w (aO w (.tuple #[.bool (M.isRef x s).1,.int .i64 (M.isRef x s).2])):=by
 refine aF fun R d=>?_;unfold Hp.isRef at d
 cases z:M.ob x with
 | none=>
  rw [z] at d;have h1:=uO w h hk x s z;clear h hk z;go_in;go_wp2_with fail;refine h1.mono ?_;rintro e _ ⟨rfl,rfl⟩;go_wp2;exact d.out _ _ ⟨rfl,rfl⟩
 | some o=>
  rw [z] at d;simp only at d
  by_cases hs:s<0\/(o.slots.length:Int)<=s
  ·rw [if_pos hs] at d;have h1:=zA w h hk x s z hs;clear h hk z hs;go_in;go_wp2_with fail;refine h1.mono ?_;rintro e _ ⟨rfl,rfl⟩;go_wp2;exact d.out _ _ ⟨rfl,rfl⟩
  rw [if_neg hs] at d;have h1:=aBH w h hk x s z hs;have h2:=h.cells.1;obtain ⟨j,rfl⟩:∃ j:Nat,s=j:=⟨s.toNat,by omega⟩;have hj:j<o.slots.length:=by omega
  have j0:(0:Int)<=j:=by omega
  rw [show (j:Int).toNat=j by omega] at d;obtain ⟨i,rfl,hi,x0,x1⟩:=hk.idx z;have h0:=(hk.th _ o z).rl;have h3:=(h.iR hi z).2.2.1;obtain ⟨g,cap,hv,hc⟩:=(h.th _ o z).rb.cellsOf (by omega);rw [hv] at h3;have h4:=hc j (by omega);obtain ⟨n,hn⟩:∃ n,n=o.refs.length:=⟨_,rfl⟩;rw [<-hn] at h3;have h5:j<n:=by omega
  have h6:(j:Int)<n:=by omega
  generalize gB o.refs j=y at*;clear h hk z hv hc hi h0 hs hn hj;go_in;go_wp2_with fail;refine h1.mono ?_;rintro e _ ⟨rfl,rfl⟩;go_wp2;exact d.out _ _ ⟨rfl,rfl⟩
end
set_option maxHeartbeats 3200000
section
variable {L:Nat->Option Gb} {hb:Nat} {M:Hp} {X:GX}
theorem aDl (w:World) (h:bH w L hb M X) (hk:M.Ok) (x:Int):Calls prog 129 #[.pointer (some ⟨hb,0,none⟩),.int .i64 x] w (fun e w'=>e=.returned (.tuple #[.int .i64 (M.type x).1,.int .i64 (M.type x).2.1,.int .i64 (M.type x).2.2.1,.int .i64 (M.type x).2.2.2])/\Only [] w w'):=by
 refine aF fun R hR=>?_;unfold Hp.type at hR
 cases d:M.ob x with
 | none=>
  rw [d] at hR;have h1:=lH w h hk x d;clear h hk d;go_in;go_wp2_with fail;refine h1.mono ?_;rintro e _ ⟨rfl,rfl⟩;go_wp2;refine bodyPost_ret (kP rfl _ _ _) rfl ?_;exact hR.out _ _ ⟨rfl,Only.refl _ _⟩
 | some o=>
  rw [d] at hR;have h1:=lG w h hk x d;have h2:=h.cells.1;obtain ⟨i,rfl,hi,x0,x1⟩:=hk.idx d;obtain ⟨c0,c1,c2,c3,c4⟩:=h.iR hi d;obtain ⟨a2,b2,e2⟩:=(h.th _ o d).rb.len;obtain ⟨a3,b3,e3⟩:=(h.th _ o d).sl.len;obtain ⟨a4,b4,e4⟩:=(h.th _ o d).bl.len;rw [e2] at c2;rw [e3] at c3;rw [e4] at c4;replace hR:Hid (∀ e w',e=.returned (.tuple #[.int .i64 o.kind,.int .i64 o.cls,.int .i64 o.slots.length,.int .i64 0])/\Only [] w w'->R e w'):=hR;generalize o.kind=kd at*;generalize o.cls=cl at*;generalize o.slots.length=ln at*;generalize o.refs.length=rn at*;generalize o.blocks.length=bn at*;generalize X.og=og at*;have hO:Hid (Only [] w (w.alloc (.cells #[.int .i64 kd,.int .i64 cl,.slice a2 rn b2,.slice a3 ln b3,.slice a4 bn b4] 217))):=(Only.refl [] w).alloc _;clear h hk d hi e2 e3 e4;go_in;go_wp2_with fail;refine h1.mono ?_;rintro e _ ⟨rfl,rfl⟩;go_wp2_with fail;have z:Row (w.alloc (.cells #[.int .i64 kd,.int .i64 cl,.slice a2 rn b2,.slice a3 ln b3,.slice a4 bn b4] 217)) w.heap.size 217 [.int .i64 kd,.int .i64 cl,.slice a2 rn b2,.slice a3 ln b3,.slice a4 bn b4]:=Row.new w _ [_,_,_,_,_];generalize (w.alloc (.cells #[.int .i64 kd,.int .i64 cl,.slice a2 rn b2,.slice a3 ln b3,.slice a4 bn b4] 217))=w6 at*;generalize hy:w.heap.size=y at*;clear hy;have f0:=z.cell 0 rfl;have f1:=z.cell 1 rfl;have f3:=z.cell 3 rfl;clear z h1 h2 c0 c1 c2 c3 c4;go_quiet (fail);go_wp2;refine bodyPost_ret (kP rfl _ _ _) rfl ?_;exact hR.out _ _ ⟨rfl,hO.out.drewN _⟩
theorem aES (w:World) (h:bH w L hb M X) (hk:M.Ok) (x:Int):Calls prog 185 #[.pointer (some ⟨hb,0,none⟩),.int .i64 x] w (aNO w (M.blocks x)):=by
 refine aF fun R d=>?_;unfold Hp.blocks at d
 cases z:M.ob x with
 | none=>
  rw [z] at d;have h1:=lH w h hk x z;clear h hk z;go_in;go_wp2_with fail;refine h1.mono ?_;rintro e _ ⟨rfl,rfl⟩;go_wp2;exact d.out _ _ ⟨_,rfl,aK.nil _ _,Only.refl _ _⟩
 | some o=>
  rw [z] at d;replace d:Hid (∀ e w',aNO w (o.blocks,0) e w'->R e w'):=d;have h1:=lG w h hk x z;have h2:=h.cells.1;obtain ⟨h0,h3,_⟩:=hk.aAu z;obtain ⟨i,rfl,hi,x0,x1⟩:=hk.idx z;have c4:=(h.iR hi z).2.2.2.2;obtain ⟨g,cap,hv,hc⟩:=(h.th _ o z).bl.cellsOf h0;rw [hv] at c4;have HC:=aA hc;obtain ⟨n,hn⟩:∃ n,n=o.blocks.length:=⟨_,rfl⟩;rw [<-hn] at c4;have HN:=aA hn;have h4:n<=7:=by omega
  generalize X.og=og at*;have d2:(w.alloc (.cells #[] 3)).cell? ⟨hb,0,none⟩=_:=((Only.refl [] w).alloc _).aQ h2;have d4:(w.alloc (.cells #[] 3)).cell? ⟨og,i*5+4,none⟩=_:=((Only.refl [] w).alloc _).aQ c4;clear h hk z hi hv hc hn h0 h3 h2 c4;go_in;go_wp2_with fail;refine h1.mono ?_;rintro e _ ⟨rfl,rfl⟩;go_wp2_with (at_builtin;refine gV rfl _ _ rfl w.heap.size _ _ rfl (aK.made w) ⟨g,0,none⟩ n cap o.blocks rfl ?c1 ?c2 ?c3 ?c4 ?c5)
  case c1=>exact HN.out.symm
  case c2=>
   intro j u hu;have hj:j<o.blocks.length:=(List.getElem?_eq_some_iff.1 hu).1;have h5:=HC.out j hj;rw [dI,Nat.zero_add,((Only.refl [] w).alloc _).aQ h5,gI,hu];rfl
  case c3=>simp;omega
  case c4=>simp
  case c5=>
   intro v' w2 hv z _ _;have HV:=aA hv;have HO:=aA (((Only.refl [] w).alloc _).trans z (fun y hy=>.inr (by simp [Value.ownBlock] at hy;omega)));clear hv z;go_wp2;exact d.out _ _ ⟨v',rfl,HV.out,HO.out⟩
end
section
variable {L:Nat->Option Gb} {hb:Nat} {M:Hp} {X:GX}
theorem zB (w:World) (h:bH w L hb M X) (hk:M.Ok) (x:Int):Calls prog 158 #[.pointer (some ⟨hb,0,none⟩),.int .i64 x] w (aNO w (M.refs x)):=by
 refine aF fun R hR=>?_;unfold Hp.refs at hR
 cases ho:M.ob x with
 | none=>
  rw [ho] at hR;have h1:=lH w h hk x ho;clear h hk ho;go_in;go_wp2_with fail;refine h1.mono ?_;rintro e _ ⟨rfl,rfl⟩;go_wp2;exact hR.out _ _ ⟨_,rfl,aK.nil _ _,Only.refl _ _⟩
 | some o=>
  rw [ho] at hR;have h1:=lG w h hk x ho;have h2:=h.cells.1;have y2:=(hk.th x o ho).le;have h6:=(hk.th x o ho).rl;obtain ⟨i,rfl,hi,x0,x1⟩:=hk.idx ho;obtain ⟨c0,c1,c2,c3,c4⟩:=h.iR hi ho;obtain ⟨a2,b2,e2⟩:=(h.th _ o ho).rb.len;obtain ⟨a3,b3,e3⟩:=(h.th _ o ho).sl.len;obtain ⟨a4,b4,e4⟩:=(h.th _ o ho).bl.len;have h5:=(h.th _ o ho).rb;have h7:=(h.th _ o ho).sl;rw [e2] at c2 h5;rw [e3] at c3 h7;rw [e4] at c4;rw [h6] at c2 h5;have h9:=aA h5;have x3:=aA h7;obtain ⟨n,hn⟩:∃ n,n=o.slots.length:=⟨_,rfl⟩;rw [<-hn] at c2 c3 y2 h9 x3;have HN:=aA hn;have x2:=aA h6;replace hR:Hid (∀ e w',aNO w (o.fV n,0) e w'->R e w'):=by rw [hn];exact hR
  generalize X.og=og at*;generalize o.kind=kd at*;generalize o.cls=cl at*;generalize o.blocks.length=bn at*;have x4:Hid (Row (w.alloc (.cells #[.int .i64 kd,.int .i64 cl,.slice a2 n b2,.slice a3 n b3,.slice a4 bn b4] 217)) w.heap.size 217 [.int .i64 kd,.int .i64 cl,.slice a2 n b2,.slice a3 n b3,.slice a4 bn b4]):=Row.new w _ [_,_,_,_,_];have h0:Hid (Only [] w (w.alloc (.cells #[.int .i64 kd,.int .i64 cl,.slice a2 n b2,.slice a3 n b3,.slice a4 bn b4] 217))):=(Only.refl [] w).alloc _;clear h hk ho hi e2 e3 e4 h5 h7 hn h6;go_in;go_wp2_with fail;refine h1.mono ?_;rintro e _ ⟨rfl,rfl⟩;go_wp2_with fail;generalize (w.alloc (.cells #[.int .i64 kd,.int .i64 cl,.slice a2 n b2,.slice a3 n b3,.slice a4 bn b4] 217))=w6 at*;obtain ⟨y,hy⟩:∃ y,y=w.heap.size:=⟨_,rfl⟩;rw [<-hy] at x4 ⊢;clear h1 h2 c0 c1 c2 c3 c4 hy;go_loopw [8,9] (fun v iv wr=>∃ k:Nat,k<=n/\iv=.int .i64 k/\aK wr w6.heap.size v (o.fV k)/\Only [] w6 wr) (fun _ iv _=>n - (intOf iv).toNat)
  case atStart=>exact ⟨0,by omega,rfl,aK.nil _ _,Only.refl _ _⟩
  case round=>
   obtain ⟨k,hk,rfl,hi,ho⟩:=hrel;have HI:=aA hi;have HO:=aA ho;have h4:=ho.row x4.out (by simp);have f2:wr.cell? ⟨y,2,none⟩=_:=h4.cell 2 rfl;have f3:wr.cell? ⟨y,3,none⟩=_:=h4.cell 3 rfl;obtain ⟨va,vc,hv⟩:=hi.len;obtain ⟨vn,h8⟩:∃ z,z=(o.fV k).length:=⟨_,rfl⟩;rw [<-h8] at hv;subst hv;have y5:=aA h8;clear hi ho h4 h8
   by_cases y7:k<n
   ·obtain ⟨rg,y3⟩:∃ rg,a2=some ⟨rg,0,none⟩/\wr.cell? ⟨rg,k,none⟩=some (.bool (gB o.refs k)):=by
     rcases (h9.out.only (h0.out.trans HO.out (by simp)) (by simp)).form with ⟨_,e⟩|⟨g,c,e,_,_,_,hc⟩
     ·have e5:=x2.out;rw [<-HN.out,e] at e5;simp at e5;omega
     cases e;exact ⟨g,rfl,hc k (by have:=x2.out;have:=HN.out;omega)⟩
    obtain ⟨sg,y4⟩:∃ sg,a3=some ⟨sg,0,none⟩/\wr.cell? ⟨sg,k,none⟩=some (.int .i64 (gI o.slots k)):=by
     rcases (x3.out.only (h0.out.trans HO.out (by simp)) (by simp)).form with ⟨_,e⟩|⟨g,c,e,_,_,_,hc⟩
     ·have e5:=HN.out;rw [e] at e5;simp at e5;omega
     cases e;exact ⟨g,rfl,hc k (by have:=HN.out;omega)⟩
    obtain ⟨rfl,g1⟩:=y3;obtain ⟨rfl,g2⟩:=y4;have x8:(k:Int)<n:=by omega
    have y6:(0:Int)<=k:=by omega
    have d:Hid (o.fV (k+1)=o.fV k ++ if gB o.refs k=true/\gI o.slots k≠0 then [gI o.slots k] else []):=rfl;have x7:=aA (o.nG k);generalize gI o.slots k=z at g2 d
    cases hg:gB o.refs k
    ·rw [hg] at g1 d;have h3:Hid (o.fV (k+1)=o.fV k):=by show _=_;rw [d.out];simp
     clear d hg;go_wp2;exact ⟨⟨k+1,by omega,by go_num,by rw [h3.out];exact HI.out,HO.out⟩,by simp [intOf];omega⟩
    rw [hg] at g1 d
    by_cases hz:z=0
    ·subst hz;have h3:Hid (o.fV (k+1)=o.fV k):=by show _=_;rw [d.out];simp
     clear d hg;go_wp2;exact ⟨⟨k+1,by omega,by go_num,by rw [h3.out];exact HI.out,HO.out⟩,by simp [intOf];omega⟩
    have h3:Hid (o.fV (k+1)=o.fV k ++ [z]):=by show _=_;rw [d.out];simp [hz]
    have y8:(z != 0)=true:=by simpa using hz
    clear d hg hz;go_wp2_with (at_builtin;refine bJ rfl _ _ rfl w6.heap.size _ _ rfl (HI.out.alloc (.cells #[.int .i64 z] 3)) wr.heap.size z rfl ?c1 ?c2 ?c3 ?c4)
    case c1=>exact (Row.new wr _ [_]).cell 0 rfl
    case c2=>have:=x7.out;omega
    case c3=>have:=h0.out.size;have:=HO.out.size;simp;omega
    case c4=>
     intro v' w2 x5 x6 y1;have y0:Hid (Only [] w6 w2):=oL HO.out HI.out x6;have x9:=aA x5;clear x5 x6 y1;go_wp2;exact ⟨⟨k+1,by omega,by go_num,by rw [h3.out];exact x9.out,y0.out⟩,by simp [intOf];omega⟩
   obtain rfl:k=n:=by omega
   have x8:¬ (k:Int)<k:=by omega
   go_wp2;exact hR.out _ _ ⟨_,rfl,HI.out.base h0.out.size,h0.out.trans HO.out (by simp)⟩
end
theorem Hp.nS (M:Hp) (k:Nat):(M.aZ k).length<=k:=by
 induction k with
 | zero=>exact Nat.le_refl _
 | succ k y=>
  show (M.aZ k ++ _).length<=_;rw [List.length_append];split<;>simp<;>omega
section
variable {L:Nat->Option Gb} {hb:Nat} {M:Hp} {X:GX}
theorem aDx (w:World) (h:bH w L hb M X) (hk:M.Ok):Calls prog 184 #[.pointer (some ⟨hb,0,none⟩)] w (aNP w M.handles):=by
 refine aF fun R hR=>?_;have H:=aA h;have HK:=aA hk;clear h hk;go_in;go_wp2;go_loopw [3,4] (fun v iv wr=>∃ k:Nat,k<=192/\iv=.int .i64 ((k:Int)+1)/\aK wr w.heap.size v (M.aZ k)/\Only [] w wr) (fun _ iv _=>193 - (intOf iv).toNat)
 case atStart=>exact ⟨0,by omega,rfl,aK.nil _ _,Only.refl _ _⟩
 case round=>
  obtain ⟨k,hk,rfl,hi,ho⟩:=hrel;have h1:=fM wr (H.out.aN ho);have c0:=(H.out.aN ho).cells.1;have d:=aBK wr (H.out.aN ho) HK.out ((k:Int)+1);obtain ⟨va,vc,hv⟩:=hi.len;obtain ⟨vn,h4⟩:∃ z,z=(M.aZ k).length:=⟨_,rfl⟩;rw [<-h4] at hv;subst hv;have HI:=aA hi;have HO:=aA ho;clear hi ho h4
  by_cases x2:k<192
  ·have h6:(k:Int)+1<193:=by omega
   have y:Hid (M.aZ (k+1)=M.aZ k ++ if (M.ob ((k:Int)+1)).isSome then [(k:Int)+1] else []):=rfl;have h5:=aA (M.nS k)
   cases hg:(M.ob ((k:Int)+1)).isSome
   ·rw [hg] at d y;have h0:Hid (M.aZ (k+1)=M.aZ k):=by show _=_;rw [y.out];simp
    clear y hg;go_wp2_with fail;refine h1.mono ?_;rintro e _ ⟨rfl,rfl⟩;go_wp2_with fail;refine d.mono ?_;rintro e _ ⟨rfl,rfl⟩;go_wp2;exact ⟨⟨k+1,by omega,by go_num,by rw [h0.out];exact HI.out,HO.out⟩,by simp [intOf];omega⟩
   rw [hg] at d y;have h0:Hid (M.aZ (k+1)=M.aZ k ++ [(k:Int)+1]):=by show _=_;rw [y.out];simp
   clear y hg;go_wp2_with fail;refine h1.mono ?_;rintro e _ ⟨rfl,rfl⟩;go_wp2_with fail;refine d.mono ?_;rintro e _ ⟨rfl,rfl⟩;go_wp2_with (at_builtin;refine bJ rfl _ _ rfl w.heap.size _ _ rfl (HI.out.alloc (.cells #[.int .i64 ((k:Int)+1)] 3)) wr.heap.size ((k:Int)+1) rfl ?c1 ?c2 ?c3 ?c4)
   case c1=>exact (Row.new wr _ [_]).cell 0 rfl
   case c2=>have:=h5.out;omega
   case c3=>have:=HO.out.size;simp;omega
   case c4=>
    intro v' w2 h2 h3 x1;have h8:=aA (oL HO.out HI.out h3);have h7:=aA h2;clear h2 h3 x1;go_wp2;exact ⟨⟨k+1,by omega,by go_num,by rw [h0.out];exact h7.out,h8.out⟩,by simp [intOf];omega⟩
  have h6:¬ (k:Int)+1<193:=by omega
  have h9:Hid (k=192):=by show k=192;omega
  clear x2;go_wp2_with fail;refine h1.mono ?_;rintro e _ ⟨rfl,rfl⟩;go_wp2_with fail;refine hR.out _ _ ⟨_,rfl,?_,HO.out⟩;unfold Hp.handles;rw [<-h9.out];exact HI.out
theorem aDp (w:World) (h:bH w L hb M X):Calls prog 225 #[.pointer (some ⟨hb,0,none⟩)] w fun e w'=>
  ∃ q k c l,e=.returned (.pointer (some ⟨q,0,none⟩))/\eH w' q k c l M.P/\Only [] w w'/\w.heap.size<=q/\w.heap.size<=k/\w.heap.size<=c/\w.heap.size<=l:=by
 refine aF fun R hR=>?_;have h1:=fM w h;have y:=nI w X.q X.k X.c X.l M.P h.pool;have h3:=h.cells.2.1;clear h;go_in;go_wp2_with fail;refine h1.mono ?_;rintro e _ ⟨rfl,rfl⟩;go_wp2_with fail;refine y.mono ?_;rintro e w3 ⟨q,k,c,l,rfl,z⟩;have d:=aA z;clear z y;go_wp2;exact hR.out _ _ ⟨q,k,c,l,rfl,d.out⟩
end
theorem nN {n:Nat} (h:n<=7) {c:Int} (y:mO (1+n)=c):aS n=[c]:=by rw [yE (by omega),y]
theorem aHE (w:World) (n:Nat) (hn:n<=48) (a:Bool) (ha:a=false->n<=7):Calls prog 242 #[.int .i64 n,.bool a] w (aNP w (aS n)):=by
 refine aF fun R hR=>?_
 by_cases h7:n<=7
 ·by_cases h1:n<=1
  ·have e:Hid (aS n=[0]):=nN h7 (by unfold mO;rw [if_pos (by omega)]);have h8:(n:Int)<=1:=by omega
   have h4:(n:Int)<=7:=by omega
   rw [e.out] at hR;clear e ha
   cases a<;>(
    go_in;go_wp2;exact hR.out _ _ ⟨_,rfl,aK.one w 0,(Only.refl [] w).alloc _⟩)
  by_cases h3:n<=3
  ·have e:Hid (aS n=[1]):=nN h7 (by unfold mO;rw [if_neg (by omega),if_pos (by omega)]);have h8:¬ (n:Int)<=1:=by omega
   have x6:(n:Int)<=3:=by omega
   have h4:(n:Int)<=7:=by omega
   rw [e.out] at hR;clear e ha
   cases a<;>(
    go_in;go_wp2;exact hR.out _ _ ⟨_,rfl,aK.one w 1,(Only.refl [] w).alloc _⟩)
  have e:Hid (aS n=[2]):=nN h7 (by unfold mO;rw [if_neg (by omega),if_neg (by omega)]);have h8:¬ (n:Int)<=1:=by omega
  have x6:¬ (n:Int)<=3:=by omega
  have h4:(n:Int)<=7:=by omega
  rw [e.out] at hR;clear e ha
  cases a<;>(
   go_in;go_wp2;exact hR.out _ _ ⟨_,rfl,aK.one w 2,(Only.refl [] w).alloc _⟩)
 obtain rfl:a=true:=by
  cases a with
  | true=>rfl
  | false=>exact absurd (ha rfl) h7
 have h4:¬ (n:Int)<=7:=by omega
 have H7:Hid (7<n):=by show 7<n;omega
 have hf:Hid (mO (1+n)=2):=rZ (by omega);clear ha h7;go_in;go_wp2_with fail;have y:Hid (aK (w.alloc (.cells #[.int .i64 2] 3)) w.heap.size (.slice (some ⟨w.heap.size,0,none⟩) 1 1) [2]):=aK.one w 2;have d:Hid (Only [] w (w.alloc (.cells #[.int .i64 2] 3))):=(Only.refl [] w).alloc _;generalize (w.alloc (.cells #[.int .i64 2] 3))=w2 at*;go_loopw [5,6] (fun v iv wr=>∃ j:Nat,iv=.int .i64 (j*8:Nat)/\j<=6/\(j=0\/(j - 1)*8<n)/\aK wr w.heap.size v (2 :: List.replicate j 2)/\Only [] w wr) (fun _ iv _=>49 - (intOf iv).toNat)
 case atStart=>exact ⟨0,rfl,by omega,.inl rfl,y.out,d.out⟩
 case round=>
  clear y d w2;obtain ⟨j,rfl,x8,hj,h2,ho⟩:=hrel;obtain ⟨va,vc,hv⟩:=h2.len;rw [show (2 :: List.replicate j (2:Int)).length=j+1 by simp] at hv;subst hv;have y:=aA h2;have d:=aA ho;obtain ⟨ji,h0⟩:∃ z:Int,z=((j*8:Nat):Int):=⟨_,rfl⟩;rw [<-h0];have h6:=aA h0
  by_cases x9:j*8<n
  ·have x2:ji<(n:Int):=by omega
   have y1:0<=ji:=by omega
   obtain ⟨jn,h5⟩:∃ z,z=j+1:=⟨_,rfl⟩;rw [<-h5] at y ⊢;have y0:=aA h5;clear h0 h2 ho h5;go_wp2_with (at_builtin;refine bJ rfl _ _ rfl w.heap.size _ _ rfl (y.out.alloc _) wr.heap.size 2 rfl ?c1 ?c2 ?c3 ?c4)
   case c1=>exact (Row.new wr _ [_]).cell 0 rfl
   case c2=>simp;omega
   case c3=>have:=d.out.size;simp;omega
   case c4=>
    intro v' w5 x1 h9 x7;have x5:=aA x1;have x4:Hid (Only [] w w5):=oL d.out y.out h9;clear x1 h9 x7 y d;go_wp2_with fail;refine ⟨⟨j+1,?_,?_,?_,?_,x4.out⟩,?_⟩
    ·have:=h6.out;go_num
    ·omega
    ·right;show j*8<n;omega
    ·have:=x5.out;rw [aGd] at this;exact this
    have:=h6.out;simp [intOf];omega
  have x2:¬ ji<(n:Int):=by omega
  have x3:Hid (2 :: List.replicate j (2:Int)=aS n):=by
   have:=aAF H7.out x9 (by have:=H7.out;omega) (by have:=H7.out;omega);rw [hf.out] at this;exact this
  clear h2 ho h0 hj x8;go_wp2;exact hR.out _ _ ⟨_,rfl,by rw [<-x3.out];exact y.out,d.out⟩
structure aQL (o:Th):Prop where
 b1:1<=o.blocks.length
 b7:o.blocks.length<=7
 s48:o.slots.length<=48
 rng:∀ m,m<o.blocks.length->0<=gI o.blocks m/\gI o.blocks m<384
 leaf:1<o.blocks.length->∀ s,s<o.slots.length->1+s / 8<o.blocks.length
section
variable {w w':World} {L:Nat->Option Gb} {hb:Nat} {X:GX} {P:Pl} {ob:Int->Option Th}
def kK (o:Option Gb):Prop:=o=some .pq\/o=some .pk\/o=some .pc\/o=some .pl
theorem kK.ne {k:Nat} {ℓ:Gb} (h:kK (L k)) (y:ℓ≠.pq) (z:ℓ≠.pk) (d:ℓ≠.pc) (h4:ℓ≠.pl):L k≠some ℓ:=fun e=>by
 rcases h with h|h|h|h<;>rw [h] at e<;>cases e
 ·exact y rfl
 ·exact z rfl
 ·exact d rfl
 exact h4 rfl
theorem bH.aCI (h:bH w L hb ⟨P,ob⟩ X) (y:Only [X.k,X.c,X.l] w w'):aI (fun k=>kK (L k)) w w':=y.toP (fun x hx=>.inl (by
 simp at hx;rcases hx with rfl|rfl|rfl
 ·exact .inr (.inl h.Lk)
 ·exact .inr (.inr (.inl h.Lc))
 exact .inr (.inr (.inr h.Ll))))
theorem bH.aCH {P':Pl} (h:bH w L hb ⟨P,ob⟩ X) (y:aI (fun k=>kK (L k)) w w') (hp:eH w' X.q X.k X.c X.l P'):bH w' L hb ⟨P',ob⟩ X:=by
 obtain ⟨d,m1⟩:=h.mem;obtain ⟨e,cs,m2,n2⟩:=h.ob;exact ⟨fun k z=>Nat.lt_of_lt_of_le (h.lt k z) y.size,⟨d,y.row m1 (fun x=>x.ne (ℓ:=.mem) (by simp) (by simp) (by simp) (by simp) h.Lm)⟩,h.Lm,hp,h.Lq,h.Lk,h.Lc,h.Ll,
  ⟨e,cs,y.row m2 (fun x=>x.ne (ℓ:=.objs) (by simp) (by simp) (by simp) (by simp) h.Lo),n2⟩,h.Lo,fun k t z=>(h.th k t z).only y (fun x hx=>⟨hx.ne (by simp) (by simp) (by simp) (by simp),hx.ne (by simp) (by simp) (by simp) (by simp),hx.ne (by simp) (by simp) (by simp) (by simp)⟩)⟩
theorem bH.gJ {P':Pl} (h:bH w L hb ⟨P,ob⟩ X) (y:Only [X.k,X.c,X.l] w w') (z:eH w' X.q X.k X.c X.l P'):bH w' L hb ⟨P',ob⟩ X:=h.aCH (h.aCI y) z
theorem bH.notP (h:bH w L hb ⟨P,ob⟩ X) {g:Nat} {ℓ:Gb} (y:L g=some ℓ) (h1:ℓ≠.pq) (z:ℓ≠.pk) (d:ℓ≠.pc) (e:ℓ≠.pl):g∉[X.k,X.c,X.l]:=by
 simp;refine ⟨?_,?_,?_⟩
 ·rintro rfl;rw [h.Lk] at y;cases y;exact z rfl
 ·rintro rfl;rw [h.Lc] at y;cases y;exact d rfl
 rintro rfl;rw [h.Ll] at y;cases y;exact e rfl
end
end Go.Proofs.YthflghdaejbdkaaGreat
