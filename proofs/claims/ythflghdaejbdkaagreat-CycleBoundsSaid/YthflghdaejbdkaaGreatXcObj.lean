/- Lemmas of this claim. -/
import Derived.Test.YthflghdaejbdkaaGreatXcOMaps
import Derived.Test.YthflghdaejbdkaaGreatXcOModel
import Derived.Test.YthflghdaejbdkaaGreatXcInts
import Derived.IntWalk
namespace Go.Proofs.YthflghdaejbdkaaGreat
open _root_.Go.Proofs.Tryz (prog)
open Go.RowKit Go.Maps
set_option maxHeartbeats 1600000
set_option maxRecDepth 100000
set_option linter.unusedVariables false
inductive Lb|mem|pool|pages|map|th (h:Int)|rb (h:Int)|bl (h:Int)
 deriving DecidableEq
def Th.kH (o:Th):List Bool:=if o.kind=2 then o.refs else []
def aAh (o:Th) (rv bv:Value):List Value:=[.int .i64 o.kind,.int .i64 o.cls,.int .i64 o.slots.length,rv,bv]
structure aEa (w:World) (L:Nat->Option Lb) (h:Int) (b:Nat) (rv bv:Value) (o:Th):Prop where
 row:∃ T,Row w b T (aAh o rv bv)
 Lth:L b=some (.th h)
 rb:Bls w 0 rv o.kH
 Lr:∀ g,rv.ownBlock=some g->L g=some (.rb h)
 bl:aK w 0 bv o.blocks
 Ll:∀ g,bv.ownBlock=some g->L g=some (.bl h)
structure HX where
 pp:Nat
 pb:Nat
 mb:Nat
 blk:Int->Nat
 rv:Int->Value
 bv:Int->Value
structure dK (w:World) (L:Nat->Option Lb) (hb:Nat) (M:Hp) (X:HX):Prop where
 lt:∀ k,L k≠none->k<w.heap.size
 mem:∃ T,Row w hb T [.pointer (some ⟨X.pp,0,none⟩),.map (some X.mb)]
 Lm:L hb=some .mem
 pool:dP w X.pp X.pb M.P
 Lpp:L X.pp=some .pool
 Lpb:L X.pb=some .pages
 mp:dO w X.mb 192 (fun h=>(M.ob h).map fun _=>X.blk h)
 Lp:L X.mb=some .map
 th:∀ h o,M.ob h=some o->aEa w L h (X.blk h) (X.rv h) (X.bv h) o
section
variable {w w':World} {S:Nat->Prop} {L L':Nat->Option Lb} {hb:Nat} {M:Hp} {X:HX}
theorem gK.dA {b o:Nat} {p:Pg} (h:gK w b o p) (z:aI S w w') (y:¬ S b):gK w' b o p:=fun r d=>z.cell (h r d) y
theorem dP.dA {p b:Nat} {P:Pl} (h:dP w p b P) (z:aI S w w') (e:¬ S p) (d:¬ S b):dP w' p b P:=
 ⟨h.hp.imp fun _ x=>x.imp fun _ y=>z.row y e,h.hb.imp fun _ x=>x.imp fun _ y=>z.row y d,fun i hi=>(h.pg i hi).dA z d,h.ne,h.n1,h.n24,h.ok⟩
theorem aEa.only {h:Int} {b:Nat} {rv bv:Value} {o:Th} (k:aEa w L h b rv bv o) (z:aI S w w') (y:∀ x,S x->L x≠some (.th h)/\L x≠some (.rb h)/\L x≠some (.bl h)):aEa w' L h b rv bv o:=by
 obtain ⟨⟨T,h1⟩,d,h3,e,h5,h6⟩:=k;exact ⟨⟨T,z.row h1 (fun x=>(y b x).1 d)⟩,d,h3.dA z (fun g hgv x=>(y g x).2.1 (e g hgv)),e,h5.dA z (fun g hgv x=>(y g x).2.2 (h6 g hgv)),h6⟩
theorem dK.only (h:dK w L hb M X) (z:aI S w w') (hS:∀ k,S k->L k=none):dK w' L hb M X:=by
 have y:∀ k ℓ,S k->L k≠some ℓ:=fun k ℓ d e=>by rw [hS k d] at e;cases e
 refine ⟨fun k d=>Nat.lt_of_lt_of_le (h.lt k d) z.size,?_,h.Lm,h.pool.dA z (fun x=>y _ _ x h.Lpp) (fun x=>y _ _ x h.Lpb),h.Lpp,h.Lpb,h.mp.only z (fun x=>y _ _ x h.Lp),h.Lp,
  fun k t d=>(h.th k t d).only z (fun x hx=>⟨y x _ hx,y x _ hx,y x _ hx⟩)⟩
 obtain ⟨T,hr⟩:=h.mem;exact ⟨T,z.row hr (fun x=>y _ _ x h.Lm)⟩
theorem dK.aN (h:dK w L hb M X) (y:Only [] w w'):dK w' L hb M X:=h.only (y.xA (S:=fun _=>False)) (fun _ x=>x.elim)
theorem dK.drewN (h:dK w L hb M X) (n:Nat):dK (w.drewN n) L hb M X:=h.only ((aI.refl (fun _=>False) w).drewN n) (fun _ x=>x.elim)
theorem dK.drew (h:dK w L hb M X):dK w.drew L hb M X:=h.only ((aI.refl (fun _=>False) w).drew) (fun _ x=>x.elim)
theorem rG {ℓ:Lb} {g:Nat} (y:∀ k,L k≠none->L' k=L k) (h:L g=some ℓ):L' g=some ℓ:=by rw [y g (by rw [h];simp)];exact h
theorem aEa.lab {h:Int} {b:Nat} {rv bv:Value} {o:Th} (k:aEa w L h b rv bv o) (y:∀ k,L k≠none->L' k=L k):aEa w L' h b rv bv o:=
 ⟨k.row,rG y k.Lth,k.rb,fun g z=>rG y (k.Lr g z),k.bl,fun g z=>rG y (k.Ll g z)⟩
theorem dK.cells (h:dK w L hb M X):w.cell? ⟨hb,0,none⟩=some (.pointer (some ⟨X.pp,0,none⟩))/\w.cell? ⟨hb,1,none⟩=some (.map (some X.mb))/\∀ i,w.frozen? ⟨hb,i,none⟩=false:=by
 obtain ⟨T,y⟩:=h.mem;exact ⟨y.cell 0 rfl,y.cell 1 rfl,fun i=>y.free i⟩
theorem dK.look (h:dK w L hb M X) {x:Int} (hx:wfI x):(Instr.lookup 173 (.map (some X.mb)) (.int .i64 x) false).run prog w=.ok (mkP ((M.ob x).map fun _=>X.blk x)) w:=h.mp.look hx
theorem dK.yR (h:dK w L hb M X) {x:Int} (hx:wfI x) (y:M.ob x=none):(Instr.lookup 173 (.map (some X.mb)) (.int .i64 x) false).run prog w=.ok (.pointer none) w:=by
 have:=h.look hx;rw [y] at this;exact this
theorem dK.yQ (h:dK w L hb M X) {x:Int} (hx:wfI x) {o:Th} (y:M.ob x=some o):(Instr.lookup 173 (.map (some X.mb)) (.int .i64 x) false).run prog w=.ok (.pointer (some ⟨X.blk x,0,none⟩)) w:=by
 have:=h.look hx;rw [y] at this;exact this
theorem aEa.cells {h:Int} {b:Nat} {rv bv:Value} {o:Th} (k:aEa w L h b rv bv o):w.cell? ⟨b,0,none⟩=some (.int .i64 o.kind)/\w.cell? ⟨b,1,none⟩=some (.int .i64 o.cls)/\w.cell? ⟨b,2,none⟩=some (.int .i64 o.slots.length)/\w.cell? ⟨b,3,none⟩=some rv/\w.cell? ⟨b,4,none⟩=some bv:=by
 obtain ⟨T,y⟩:=k.row;exact ⟨y.cell 0 rfl,y.cell 1 rfl,y.cell 2 rfl,y.cell 3 rfl,y.cell 4 rfl⟩
end
def aQT (w:World) (v:Value):Prop:=v=.pointer none\/∃ b,v=.pointer (some ⟨b,0,none⟩)/\w.cell? ⟨b,0,none⟩=some (.pointer none)
theorem aJX (w:World) (v:Value) (h:aQT w v):Calls prog 130 #[v] w (aO w (.bool true)):=by
 refine aF fun R y=>?_;rcases h with rfl|⟨b,rfl,hc⟩<;>
 (go_in
  go_wp2;exact y.out _ _ ⟨rfl,rfl⟩)
section
variable {L:Nat->Option Lb} {hb:Nat} {M:Hp} {X:HX}
theorem jJ (w:World) (h:dK w L hb M X):Calls prog 130 #[.pointer (some ⟨hb,0,none⟩)] w (aO w (.bool false)):=by
 refine aF fun R y=>?_;have z:=h.cells.1;clear h;go_in;go_wp2;exact y.out _ _ ⟨rfl,rfl⟩
theorem aQD (w:World) (v:Value) (h:aQT w v) (x:Int):Calls prog 191 #[v,.int .i64 x] w (aO w (.tuple #[.pointer none,.int .i64 1])):=by
 refine aF fun R z=>?_;have y:=aJX w v h;clear h;go_in;go_wp2_with fail;refine y.mono ?_;rintro e _ ⟨rfl,rfl⟩;go_wp2;exact z.out _ _ ⟨rfl,rfl⟩
theorem nU (w:World) (h:dK w L hb M X) (x:Int) (hx:wfI x) (y:M.ob x=none):Calls prog 191 #[.pointer (some ⟨hb,0,none⟩),.int .i64 x] w (aO w (.tuple #[.pointer none,.int .i64 3])):=by
 refine aF fun R d=>?_;have z:=jJ w h;have h2:=h.cells.2.1;have h3:=h.yR hx y;clear h y;go_in;go_wp2_with fail;refine z.mono ?_;rintro e _ ⟨rfl,rfl⟩;go_wp2;exact d.out _ _ ⟨rfl,rfl⟩
theorem lJ (w:World) (h:dK w L hb M X) (x:Int) (hx:wfI x) {o:Th} (y:M.ob x=some o):Calls prog 191 #[.pointer (some ⟨hb,0,none⟩),.int .i64 x] w (aO w (.tuple #[.pointer (some ⟨X.blk x,0,none⟩),.int .i64 0])):=by
 refine aF fun R d=>?_;have z:=jJ w h;have h2:=h.cells.2.1;have h3:=h.yQ hx y;clear h y;go_in;go_wp2_with fail;refine z.mono ?_;rintro e _ ⟨rfl,rfl⟩;go_wp2;exact d.out _ _ ⟨rfl,rfl⟩
theorem xG (w:World) (h:dK w L hb M X) (x s:Int) (hx:wfI x) (y:M.ob x=none):Calls prog 194 #[.pointer (some ⟨hb,0,none⟩),.int .i64 x,.int .i64 s] w (aO w (.tuple #[.pointer none,.int .i64 3])):=by
 refine aF fun R d=>?_;have z:=nU w h x hx y;clear h y;go_in;go_wp2_with fail;refine z.mono ?_;rintro e _ ⟨rfl,rfl⟩;go_wp2;exact d.out _ _ ⟨rfl,rfl⟩
theorem aBm (w:World) (h:dK w L hb M X) (x s:Int) (hx:wfI x) {o:Th} (y:M.ob x=some o) (hs:s<0\/(o.slots.length:Int)<=s):Calls prog 194 #[.pointer (some ⟨hb,0,none⟩),.int .i64 x,.int .i64 s] w (aO w (.tuple #[.pointer none,.int .i64 1])):=by
 refine aF fun R d=>?_;have z:=lJ w h x hx y;have h2:=(h.th x o y).cells.2.2.1;clear h y;generalize o.slots.length=n at *
 by_cases h0:s<0
 ·go_in;go_wp2_with fail;refine z.mono ?_;rintro e _ ⟨rfl,rfl⟩;go_wp2;exact d.out _ _ ⟨rfl,rfl⟩
 have h3:(n:Int)<=s:=by omega
 clear hs;go_in;go_wp2_with fail;refine z.mono ?_;rintro e _ ⟨rfl,rfl⟩;go_wp2;exact d.out _ _ ⟨rfl,rfl⟩
theorem aEk (w:World) (h:dK w L hb M X) (x s:Int) (hx:wfI x) {o:Th} (y:M.ob x=some o) (hs:¬ (s<0\/(o.slots.length:Int)<=s)):Calls prog 194 #[.pointer (some ⟨hb,0,none⟩),.int .i64 x,.int .i64 s] w (aO w (.tuple #[.pointer (some ⟨X.blk x,0,none⟩),.int .i64 0])):=by
 refine aF fun R d=>?_;have z:=lJ w h x hx y;have h2:=(h.th x o y).cells.2.2.1;clear h y;generalize o.slots.length=n at*;have h0:¬ s<0:=by omega
 have h3:¬ (n:Int)<=s:=by omega
 clear hs;go_in;go_wp2_with fail;refine z.mono ?_;rintro e _ ⟨rfl,rfl⟩;go_wp2;exact d.out _ _ ⟨rfl,rfl⟩
theorem uH (w:World) {h:Int} {b:Nat} {rv bv:Value} {o:Th} (k:aEa w L h b rv bv o) (y:o.ok1) {s:Nat} (hs:s<o.slots.length) :
  Calls prog 198 #[.pointer (some ⟨b,0,none⟩),.int .i64 s] w (aO w (.bool (gB o.refs s))):=by
 refine aF fun R e=>?_;have c0:=k.cells.1;rcases y.kd with ⟨z,_⟩|⟨z,_,_,d⟩|⟨z,_,_,_,d⟩
 ·have c3:=k.cells.2.2.2.1;have hr:=k.rb;unfold Th.kH at hr;rw [if_pos z] at hr;have hl:s<o.refs.length:=by rw [y.rl];exact hs
  rcases hr.form with ⟨_,e3⟩|⟨g,cap,e3,_,_,_,hc⟩
  ·rw [e3] at hl;simp at hl
  have h2:=hc s hl;rw [z] at c0;rw [e3] at c3;have h1:(s:Int)<(o.refs.length:Int):=by omega
  have h0:(0:Int)<=s:=by omega
  clear hr hc k y e3 hs z;generalize gB o.refs s=r at*;generalize o.refs.length=n at*;go_in;go_wp2;exact e.out _ _ ⟨rfl,rfl⟩
 ·rw [z] at c0;rw [d s] at e;clear k y z d;go_in;go_wp2;exact e.out _ _ ⟨rfl,rfl⟩
 rw [z] at c0;rw [d s hs] at e;clear k y z d;go_in;go_wp2;exact e.out _ _ ⟨rfl,rfl⟩
end
theorem Hp.Ok.wU {M:Hp} (y:M.Ok) {h:Int} {o:Th} (d:M.ob h=some o) {m:Nat} (z:m<o.blocks.length):0<=gI o.blocks m/\gI o.blocks m<384:=by
 have e:=(y.bk h o d m z).range (y.isC d z);have h2:=(y.isC d z).sz;have h3:=y.n24;omega
section
variable {L:Nat->Option Lb} {hb:Nat} {M:Hp} {X:HX}
theorem aK.cellsOf {w:World} {base:Nat} {v:Value} {l:List Int} (h:aK w base v l) (y:1<=l.length):∃ g cap,v=.slice (some ⟨g,0,none⟩) l.length cap/\∀ i,i<l.length->w.cell? ⟨g,i,none⟩=some (.int .i64 (gI l i)):=by
 rcases h.form with ⟨_,e⟩|⟨g,cap,e,_,_,_,z⟩
 ·rw [e] at y;simp at y
 exact ⟨g,cap,e,z⟩
theorem zW (w:World) {h:Int} {b:Nat} {rv bv:Value} {o:Th} (k:aEa w L h b rv bv o) (hk:M.Ok) (ho:M.ob h=some o) {s:Nat} (hs:s<o.slots.length) :
  Calls prog 196 #[.pointer (some ⟨b,0,none⟩),.int .i64 s] w (aO w (.int .i64 (o.addr s))):=by
 refine aF fun R d=>?_;obtain ⟨h0,h6,h2,h3⟩:=hk.aAu ho;obtain ⟨g,cap,e,hc⟩:=k.bl.cellsOf h0;have c4:=k.cells.2.2.2.2;rw [e] at c4;have h4:=hk.wU ho (m:=0) (by omega);have h5:=(hk.th h o ho).le
 by_cases h1:1<o.blocks.length
 ·have h7:=h2.1 h1;have hl:=h3 h7;have hm:1+s / 8<o.blocks.length:=by omega
  have h9:=hc (1+s / 8) hm;have hr:=hk.wU ho hm;have y:Hid (o.addr s=gI o.blocks (1+s / 8)+((s % 8:Nat):Int)):=by show _=_;unfold Th.addr;rw [if_pos h1]
  rw [y.out] at d;obtain ⟨z,hz⟩:∃ z,z=gI o.blocks (1+s / 8):=⟨_,rfl⟩;rw [<-hz] at h9 hr d;obtain ⟨q,hq⟩:∃ q,q=s / 8:=⟨_,rfl⟩;obtain ⟨r,x1⟩:∃ r,r=s % 8:=⟨_,rfl⟩;rw [<-hq] at h9 hm;rw [<-x1] at d;have y2:(s:Int) / 8=(q:Int):=by omega
  have y4:(s:Int) % 8=(r:Int):=by omega
  have y3:(r:Int)<8:=by omega
  have x7:(0:Int)<=r:=by omega
  have x8:(0:Int)<=q:=by omega
  have x3:(0:Int)<=s:=by omega
  have y1:(q:Int)<=6:=by omega
  obtain ⟨n,hn⟩:∃ n,n=o.blocks.length:=⟨_,rfl⟩;rw [<-hn] at c4 h1 hm;have x9:(1:Int)<n:=by omega
  have y0:(1:Int)+q<n:=by omega
  obtain ⟨x5,x6⟩:=hr;have x4:(s:Int)<=48:=by omega
  clear k hk ho e hc h0 h6 h2 h3 h7 hl hz hq x1 hn y h4 h5 h1 hs;go_in;go_wp2;exact d.out _ _ ⟨rfl,rfl⟩
 have y:Hid (o.addr s=gI o.blocks 0+1+(s:Int)):=by show _=_;unfold Th.addr;rw [if_neg h1]
 rw [y.out] at d;have x2:=hc 0 (by omega);have h8:o.blocks.length=1:=by omega
 rw [h8] at c4;obtain ⟨z,hz⟩:∃ z,z=gI o.blocks 0:=⟨_,rfl⟩;rw [<-hz] at x2 h4 d;obtain ⟨x5,x6⟩:=h4;have x3:(0:Int)<=s:=by omega
 have x4:(s:Int)<=48:=by omega
 clear k hk ho e hc h0 h6 h2 h3 hz y h5 h1 h8 hs;go_in;go_wp2;exact d.out _ _ ⟨rfl,rfl⟩
theorem aBj (w:World) (h:dK w L hb M X) (x:Int) (hx:wfI x):Calls prog 162 #[.pointer (some ⟨hb,0,none⟩),.int .i64 x] w (Same w (.tuple #[.int .i64 (M.type x).1,.int .i64 (M.type x).2.1,.int .i64 (M.type x).2.2.1,.int .i64 (M.type x).2.2.2])):=by
 refine aF fun R d=>?_
 cases y:M.ob x with
 | none=>
  have z:M.type x=(0,0,0,3):=by unfold Hp.type;rw [y]
  rw [z] at d;have h1:=nU w h x hx y;clear h z y;go_in;go_wp2_with fail;refine h1.mono ?_;rintro e _ ⟨rfl,rfl⟩;go_wp2;refine bodyPost_ret (kP rfl _ _ _) rfl ?_;exact d.out _ _ ⟨rfl,0,rfl⟩
 | some o=>
  have z:M.type x=(o.kind,o.cls,(o.slots.length:Int),0):=by unfold Hp.type;rw [y]
  rw [z] at d;have h1:=lJ w h x hx y;obtain ⟨c0,c1,c2,_⟩:=(h.th x o y).cells;clear h z y;generalize o.slots.length=n at*;generalize o.kind=kd at*;generalize o.cls=cl at*;go_in;go_wp2_with fail;refine h1.mono ?_;rintro e _ ⟨rfl,rfl⟩;go_wp2_with fail;go_quiet (fail);go_wp2;refine bodyPost_ret (kP rfl _ _ _) rfl ?_;exact d.out _ _ ⟨rfl,_,rfl⟩
theorem rJ (w:World) (h:dK w L hb M X) (hk:M.Ok) (x s:Int) (hx:wfI x):Calls prog 125 #[.pointer (some ⟨hb,0,none⟩),.int .i64 x,.int .i64 s] w (aO w (.tuple #[.bool (M.isRef x s).1,.int .i64 (M.isRef x s).2])):=by
 refine aF fun R d=>?_
 cases y:M.ob x with
 | none=>
  have z:M.isRef x s=(false,3):=by unfold Hp.isRef;rw [y]
  rw [z] at d;have h1:=xG w h x s hx y;clear h z y;go_in;go_wp2_with fail;refine h1.mono ?_;rintro e _ ⟨rfl,rfl⟩;go_wp2;exact d.out _ _ ⟨rfl,rfl⟩
 | some o=>
  by_cases hs:s<0\/(o.slots.length:Int)<=s
  ·have z:M.isRef x s=(false,1):=by unfold Hp.isRef;rw [y];simp only;rw [if_pos hs]
   rw [z] at d;have h1:=aBm w h x s hx y hs;clear h z y hs;go_in;go_wp2_with fail;refine h1.mono ?_;rintro e _ ⟨rfl,rfl⟩;go_wp2;exact d.out _ _ ⟨rfl,rfl⟩
  have z:M.isRef x s=(gB o.refs s.toNat,0):=by unfold Hp.isRef;rw [y];simp only;rw [if_neg hs]
  rw [z] at d;have h1:=aEk w h x s hx y hs;obtain ⟨n,rfl⟩:∃ n:Nat,s=n:=⟨s.toNat,by omega⟩;have h2:=uH w (h.th x o y) (hk.th x o y) (s:=n) (by omega);rw [Int.toNat_natCast] at d;clear h z y hs hk;go_in;go_wp2_with fail;refine h1.mono ?_;rintro e _ ⟨rfl,rfl⟩;go_wp2_with fail;refine h2.mono ?_;rintro e _ ⟨rfl,rfl⟩;go_wp2;exact d.out _ _ ⟨rfl,rfl⟩
theorem aKu (w:World) (h:dK w L hb M X) (hk:M.Ok) (x s:Int) (hx:wfI x):Calls prog 122 #[.pointer (some ⟨hb,0,none⟩),.int .i64 x,.int .i64 s] w (Same w (.tuple #[.int .i64 (M.get x s).1,.int .i64 (M.get x s).2])):=by
 refine aF fun R hR=>?_
 cases y:M.ob x with
 | none=>
  have d:M.get x s=(0,3):=by unfold Hp.get;rw [y]
  rw [d] at hR;have h1:=xG w h x s hx y;clear h d y;go_in;go_wp2_with fail;refine h1.mono ?_;rintro e _ ⟨rfl,rfl⟩;go_wp2;exact hR.out _ _ ⟨rfl,0,rfl⟩
 | some o=>
  by_cases hs:s<0\/(o.slots.length:Int)<=s
  ·have d:M.get x s=(0,1):=by unfold Hp.get;rw [y];simp only;rw [if_pos hs]
   rw [d] at hR;have h1:=aBm w h x s hx y hs;clear h d y hs;go_in;go_wp2_with fail;refine h1.mono ?_;rintro e _ ⟨rfl,rfl⟩;go_wp2;exact hR.out _ _ ⟨rfl,0,rfl⟩
  obtain ⟨n,rfl⟩:∃ n:Nat,s=n:=⟨s.toNat,by omega⟩;have d:M.get x n=(gI o.slots n,0):=by unfold Hp.get;rw [y];simp only;rw [if_neg hs,Int.toNat_natCast]
  rw [d] at hR;have hn:n<o.slots.length:=by omega
  have h1:=aEk w h x n hx y hs;have h2:∀ m,Calls prog 196 #[.pointer (some ⟨X.blk x,0,none⟩),.int .i64 n] (w.drewN m) fun e w''=>e=.returned (.int .i64 (o.addr n))/\∃ k,w''=w.drewN k:=fun m=>
   aT (zW (w.drewN m) ((h.drewN m).th x o y) hk y hn)
  have h3:∀ m,Calls prog 195 #[.pointer (some ⟨X.pp,0,none⟩),.int .i64 (o.addr n)] (w.drewN m) fun e w''=>e=.returned (.tuple #[.int .i64 (gI o.slots n),.int .i64 0])/\∃ k,w''=w.drewN k:=fun m=>by
   have:=aGh (w.drewN m) X.pp X.pb M.P (h.drewN m).pool (o.addr n);rw [(hk.kM y hn).1] at this;exact Calls.quiet_of this
  have h0:=h.cells.1;generalize o.addr n=ad at*;generalize gI o.slots n=z at*;clear h d y hs hk hn;go_in;go_wp2_with fail;refine h1.mono ?_;rintro e _ ⟨rfl,rfl⟩;go_wp2_with fail;go_quiet ((first|(go_at_call 196;with_reducible exact h2 _)|(go_at_call 195;with_reducible exact h3 _)))
  go_wp2;exact hR.out _ _ ⟨rfl,_,rfl⟩
end
set_option maxHeartbeats 3200000
def aNP (w:World) (l:List Int) (e:Ending) (w':World):Prop:=∃ v,e=.returned v/\aK w' w.heap.size v l/\Only [] w w'
def aNO (w:World) (r:List Int×Int) (e:Ending) (w':World):Prop:=∃ v,e=.returned (.tuple #[v,.int .i64 r.2])/\aK w' w.heap.size v r.1/\Only [] w w'
theorem oL {w wr w2:World} {o:Obj} {v:Value} {l:List Int} (hO:Only [] w wr) (hi:aK wr w.heap.size v l) (d:Only v.ownBlock.toList (wr.alloc o) w2):Only [] w w2:=
 (hO.alloc o).trans d (fun z y=>.inr (by
  cases e:v.ownBlock with
  | none=>rw [e] at y;simp at y
  | some c=>rw [e] at y;simp at y;subst y;exact (hi.own _ e).1))
section
variable {L:Nat->Option Lb} {hb:Nat} {M:Hp} {X:HX}
theorem aLK (w:World) (h:dK w L hb M X) (z:M.Ok) {x:Int} {o:Th} (y:M.ob x=some o) {k:Nat} (d:k<o.slots.length) :
  (∀ m,Calls prog 196 #[.pointer (some ⟨X.blk x,0,none⟩),.int .i64 k] (w.drewN m) fun e w''=>e=.returned (.int .i64 (o.addr k))/\∃ k,w''=w.drewN k)/\
  ∀ m,Calls prog 195 #[.pointer (some ⟨X.pp,0,none⟩),.int .i64 (o.addr k)] (w.drewN m) fun e w''=>e=.returned (.tuple #[.int .i64 (gI o.slots k),.int .i64 0])/\∃ k,w''=w.drewN k:=by
 refine ⟨fun m=>aT (zW (w.drewN m) ((h.drewN m).th x o y) z y d),fun m=>?_⟩;have:=aGh (w.drewN m) X.pp X.pb M.P (h.drewN m).pool (o.addr k);rw [(z.kM y d).1] at this;exact Calls.quiet_of this
theorem aCC (w:World) (h:dK w L hb M X) (hk:M.Ok) {x:Int} {o:Th} (ho:M.ob x=some o) :
  Calls prog 132 #[.pointer (some ⟨hb,0,none⟩),.pointer (some ⟨X.blk x,0,none⟩)] w (aNP w o.vV):=by
 refine aF fun R hR=>?_;have c2:=(h.th x o ho).cells.2.2.1;have x4:=(hk.th x o ho).le;have H:=aA h;have HK:=aA hk;have h3:=aA ho;obtain ⟨n,hn⟩:∃ n,n=o.slots.length:=⟨_,rfl⟩;rw [<-hn] at c2 x4;have HN:=aA hn;have h6:Hid (o.vV=o.fV n):=by show _=_;rw [hn];rfl
 rw [h6.out] at hR;clear h hk ho hn h6;go_in;go_wp2_with fail;clear c2;go_loopw [5,13] (fun v iv wr=>∃ k:Nat,k<=n/\iv=.int .i64 k/\aK wr w.heap.size v (o.fV k)/\Only [] w wr) (fun _ iv _=>n - (intOf iv).toNat)
 case atStart=>exact ⟨0,by omega,rfl,aK.nil _ _,Only.refl _ _⟩
 case round=>
  obtain ⟨k,hk,rfl,hi,ho⟩:=hrel;have HI:=aA hi;have HO:=aA ho;clear hi ho
  by_cases x5:k<n
  ·have h2:k<o.slots.length:=by have:=HN.out;omega
   have hr:=H.out.aN HO.out;have d:=uH wr (hr.th x o h3.out) (HK.out.th x o h3.out) h2;obtain ⟨s1,s2⟩:=aLK wr hr HK.out h3.out h2;have h0:=hr.cells.1;have y:Hid (o.fV (k+1)=o.fV k ++ if gB o.refs k=true/\gI o.slots k≠0 then [gI o.slots k] else []):=rfl;have h9:=aA (o.nG k);generalize o.addr k=ad at s1 s2;generalize gI o.slots k=z at s2 y;clear hr h2
   cases hg:gB o.refs k
   ·rw [hg] at d y;have h1:Hid (o.fV (k+1)=o.fV k):=by show _=_;rw [y.out];simp
    clear y hg s1 s2;go_wp2_with fail;refine d.mono ?_;rintro e _ ⟨rfl,rfl⟩;clear d;go_wp2;exact ⟨⟨k+1,by omega,by go_num,by rw [h1.out];exact HI.out,HO.out⟩,by simp [intOf];omega⟩
   rw [hg] at d y
   by_cases hz:z=0
   ·subst hz;have h1:Hid (o.fV (k+1)=o.fV k):=by show _=_;rw [y.out];simp
    clear y hg;go_wp2_with fail;refine d.mono ?_;rintro e _ ⟨rfl,rfl⟩;clear d;go_wp2_with fail;go_quiet ((first|(go_at_call 196;with_reducible exact s1 _)|(go_at_call 195;with_reducible exact s2 _)))
    clear s1 s2 h0;go_wp2;exact ⟨⟨k+1,by omega,by go_num,by rw [h1.out];exact HI.out,HO.out.drewN _⟩,by simp [intOf];omega⟩
   have h1:Hid (o.fV (k+1)=o.fV k ++ [z]):=by show _=_;rw [y.out];simp [hz]
   have x6:(z != 0)=true:=by simpa using hz
   clear y hg hz;go_wp2_with fail;refine d.mono ?_;rintro e _ ⟨rfl,rfl⟩;clear d;go_wp2_with fail;go_quiet ((first|(go_at_call 196;with_reducible exact s1 _)|(go_at_call 195;with_reducible exact s2 _)))
   clear s1 s2 h0;have h5:=aA (HO.out.drewN nq);have h4:=aA (HI.out.drewN nq);generalize wr.drewN nq=w3 at*;go_wp2_with (at_builtin;refine bJ rfl _ _ rfl w.heap.size _ _ rfl (h4.out.alloc (.cells #[.int .i64 z] 3)) w3.heap.size z rfl ?c1 ?c2 ?c3 ?c4)
   case c1=>exact (Row.new w3 _ [_]).cell 0 rfl
   case c2=>have:=h9.out;omega
   case c3=>have:=h5.out.size;simp;omega
   case c4=>
    intro v' w2 h7 h8 x3;have x2:=aA (oL h5.out h4.out h8);have x1:=aA h7;clear h7 h8 x3;go_wp2;exact ⟨⟨k+1,by omega,by go_num,by rw [h1.out];exact x1.out,x2.out⟩,by simp [intOf];omega⟩
  obtain rfl:k=n:=by omega
  go_wp2;exact hR.out _ _ ⟨_,rfl,HI.out,HO.out⟩
theorem aLZ (w:World) (h:dK w L hb M X) (hk:M.Ok) (x:Int) (hx:wfI x):Calls prog 154 #[.pointer (some ⟨hb,0,none⟩),.int .i64 x] w (aNO w (M.refs x)):=by
 refine aF fun R hR=>?_
 cases y:M.ob x with
 | none=>
  have z:M.refs x=([],3):=by unfold Hp.refs;rw [y]
  rw [z] at hR;have d:=nU w h x hx y;clear h z y;go_in;go_wp2_with fail;refine d.mono ?_;rintro e _ ⟨rfl,rfl⟩;go_wp2;exact hR.out _ _ ⟨_,rfl,aK.nil _ _,Only.refl _ _⟩
 | some o=>
  have z:M.refs x=(o.vV,0):=by unfold Hp.refs;rw [y]
  rw [z] at hR;have d:=lJ w h x hx y;have h2:=aCC w h hk y;clear h z y hk;go_in;go_wp2_with fail;refine d.mono ?_;rintro e _ ⟨rfl,rfl⟩;go_wp2_with fail;refine h2.mono ?_;rintro e w2 ⟨v,rfl,hi,y⟩;have HI:=aA hi;have HO:=aA y;clear hi y d h2;go_wp2;exact hR.out _ _ ⟨_,rfl,HI.out,HO.out⟩
theorem oZ (w:World) (h:dK w L hb M X) (hk:M.Ok) (x:Int) (hx:wfI x):Calls prog 115 #[.pointer (some ⟨hb,0,none⟩),.int .i64 x] w (aNO w (M.blocks x)):=by
 refine aF fun R hR=>?_
 cases y:M.ob x with
 | none=>
  have z:M.blocks x=([],3):=by unfold Hp.blocks;rw [y]
  rw [z] at hR;have d:=nU w h x hx y;clear h z y;go_in;go_wp2_with fail;refine d.mono ?_;rintro e _ ⟨rfl,rfl⟩;go_wp2;exact hR.out _ _ ⟨_,rfl,aK.nil _ _,Only.refl _ _⟩
 | some o=>
  have z:M.blocks x=(o.blocks,0):=by unfold Hp.blocks;rw [y]
  rw [z] at hR;have d:=lJ w h x hx y;obtain ⟨h0,h3,_⟩:=hk.aAu y;obtain ⟨g,cap,e,hc⟩:=(h.th x o y).bl.cellsOf h0;have c4:=(h.th x o y).cells.2.2.2.2;rw [e] at c4;have h2:=aAX w g o.blocks.length cap o.blocks rfl (by omega) hc;clear h z y hk e hc;go_in;go_wp2_with fail;refine d.mono ?_;rintro e _ ⟨rfl,rfl⟩;go_wp2_with fail;refine h2.mono ?_;rintro e w2 ⟨v,rfl,hi,y,_⟩;have HI:=aA hi;have HO:=aA y;clear hi y d h2;go_wp2;exact hR.out _ _ ⟨_,rfl,HI.out,HO.out⟩
end
theorem kR {l:List Int} {y:Int}:y∈l↔∃ i,i<l.length/\gI l i=y:=by
 constructor
 ·intro h;obtain ⟨i,z,rfl⟩:=List.getElem_of_mem h;exact ⟨i,z,by unfold gI;rw [List.getElem?_eq_getElem z];rfl⟩
 rintro ⟨i,z,rfl⟩;unfold gI;rw [List.getElem?_eq_getElem z];exact List.getElem_mem z
theorem yU (w:World) (v:Value) (l:List Int) (h:pR w v l) (hl:l.length<=1000000) (y:Int):Calls prog 233 #[v,.int .i64 y] w (aO w (.int .i64 (idx (fun k=>gI l k == y) l.length))):=by
 refine aF fun R hR=>?_;obtain ⟨a,c,e⟩:=h.len;subst e;have H:=aA h;obtain ⟨h1,z⟩:∃ n,n=l.length:=⟨_,rfl⟩;have h4:=aA z;rw [<-z] at hl H hR;rw [<-z];clear h z;go_in;go_wp2_with fail;go_loop [5,8] (fun _ i=>∃ k:Nat,k<=h1/\i=.int .i64 k/\Hid (∀ j,j<k->(gI l j == y)=false)) (fun _ i=>h1 - (intOf i).toNat)
 case atStart=>exact ⟨0,by omega,rfl,fun j hj=>by omega⟩
 case round=>
  obtain ⟨k,hk,rfl,hf⟩:=hrel
  by_cases h3:k<h1
  ·have h0:k<l.length:=by have:=h4.out;omega
   rcases H.out with ⟨b1,o1,d1,f1,g1⟩|⟨oa,d,f1,g1⟩;rotate_left
   ·rw [g1] at h0;simp at h0
   have e1:a=some ⟨b1,o1,none⟩:=by cases f1;rfl
   subst e1;have h2:=g1 k h0;obtain ⟨x,hx⟩:∃ x,x=gI l k:=⟨_,rfl⟩;rw [<-hx] at h2;have HX:=aA hx;clear hx g1 f1
   cases hq:(y == x)
   ·have HQ:Hid ((x == y)=false):=by show _=_;simp at hq ⊢;exact fun e=>hq e.symm
    go_wp2_with fail;go_round
    case rel=>exact ⟨k+1,by omega,by go_num,fun j hj=>by
     by_cases e:j=k
     ·rw [e,<-HX.out];exact HQ.out
     exact hf.out j (by omega)⟩
    case measure=>simp [intOf];omega
   have HQ:Hid ((x == y)=true):=by show _=_;simp at hq ⊢;exact hq.symm
   go_wp2_with fail;refine hR.out _ _ ⟨?_,rfl⟩;have e1:=kV (f:=fun k=>gI l k == y) h3 (by show (gI l k == y)=true;rw [<-HX.out];exact HQ.out) hf.out;rw [kT (by rw [e1];exact h3),e1]
  obtain rfl:k=h1:=by omega
  go_wp2_with fail;refine hR.out _ _ ⟨?_,rfl⟩;rw [rM (by rw [fP (f:=fun k=>gI l k == y) hf.out];omega)]
theorem aOJ {l:List Int} {y:Int}:decide (0<=idx (fun k=>gI l k == y) l.length)=decide (y∈l):=by
 by_cases h:fst (fun k=>gI l k == y) l.length<l.length
 ·rw [kT h];have z:=(dQ (fun k=>gI l k == y) l.length).2 h;rw [show decide (y∈l)=true from decide_eq_true (kR.2 ⟨_,h,by simpa using z⟩)];simp
 rw [rM h];rw [show decide (y∈l)=false from decide_eq_false (fun hm=>by
  obtain ⟨i,d,e⟩:=kR.1 hm;exact h (aDB (f:=fun k=>gI l k == y) d (by simp [e])).2.1)]
 simp
theorem pO (w:World) (v:Value) (l:List Int) (h:pR w v l) (hl:l.length<=1000000) (y:Int):Calls prog 193 #[v,.int .i64 y] w (aO w (.bool (decide (y∈l)))):=by
 refine aF fun R z=>?_;have d:=yU w v l h hl y;rw [<-aOJ] at z;generalize idx (fun k=>gI l k == y) l.length=r at*;clear h;go_in;go_wp2_with fail;refine d.mono ?_;rintro e _ ⟨rfl,rfl⟩;go_wp2;exact z.out _ _ ⟨rfl,rfl⟩
section
variable {w w':World} {L:Nat->Option Lb} {hb:Nat} {M:Hp} {X:HX}
def vY (w:World) (L:Nat->Option Lb) (hb:Nat) (r:Value) (M':Hp) (e:Ending) (w':World):Prop:=
 e=.returned r/\∃ y z,dK w' y hb M' z/\(∀ k,y k≠none->L k≠none\/w.heap.size<=k)/\aI (fun k=>L k≠none) w w'
theorem vY.none {r:Value} (h:dK w L hb M X) (z:lN w w'):vY w L hb r M (.returned r) w':=by
 obtain ⟨n,rfl⟩:=z;exact ⟨rfl,L,X,h.drewN n,fun k y=>.inl y,(aI.refl _ _).drewN n⟩
theorem vY.none0 {r:Value} (h:dK w L hb M X) (y:Only [] w w'):vY w L hb r M (.returned r) w':=
 ⟨rfl,L,X,h.aN y,fun k z=>.inl z,y.xA⟩
structure Th.Shape (o o':Th):Prop where
 kind:o'.kind=o.kind
 cls:o'.cls=o.cls
 refs:o'.refs=o.refs
 len:o'.slots.length=o.slots.length
 blocks:o'.blocks=o.blocks
theorem Th.Shape.refl (o:Th):o.Shape o:=⟨rfl,rfl,rfl,rfl,rfl⟩
theorem aEa.shape {h:Int} {b:Nat} {rv bv:Value} {o o':Th} (k:aEa w L h b rv bv o) (s:o.Shape o'):aEa w L h b rv bv o':=by
 have y:aAh o' rv bv=aAh o rv bv:=by unfold aAh;rw [s.kind,s.cls,s.len]
 have z:o'.kH=o.kH:=by unfold Th.kH;rw [s.kind,s.refs]
 exact ⟨by rw [y];exact k.row,k.Lth,by rw [z];exact k.rb,k.Lr,by rw [s.blocks];exact k.bl,k.Ll⟩
theorem dK.gJ {P':Pl} {ob':Int->Option Th} (h:dK w L hb M X) (hg:Only [X.pb] w w') (hp:dP w' X.pp X.pb P') (hs:∀ k,(M.ob k).isSome=(ob' k).isSome) (ho:∀ k o',ob' k=some o'->∃ o,M.ob k=some o/\o.Shape o'):dK w' L hb ⟨P',ob'⟩ X:=by
 have hP:aI (fun k=>L k=some .pages) w w':=hg.toP (fun x hx=>.inl (by simp at hx;rw [hx];exact h.Lpb));have y:∀ k ℓ,ℓ≠Lb.pages->L k=some .pages->L k≠some ℓ:=fun k ℓ d z e=>by rw [z] at e;cases e;exact d rfl
 refine ⟨fun k z=>Nat.lt_of_lt_of_le (h.lt k z) hP.size,?_,h.Lm,hp,h.Lpp,h.Lpb,?_,h.Lp,fun k o' z=>?_⟩
 ·obtain ⟨T,hr⟩:=h.mem;exact ⟨T,hP.row hr (fun x=>y _ .mem (by simp) x h.Lm)⟩
 ·refine (h.mp.only hP (fun x=>y _ .map (by simp) x h.Lp)).congr (fun k=>?_);show (M.ob k).map _=(ob' k).map _;have:=hs k
  cases d:M.ob k<;>cases h2:ob' k<;>simp_all
 obtain ⟨o,d,h2⟩:=ho k o' z;exact ((h.th k o d).only hP (fun x hx=>⟨y x _ (by simp) hx,y x _ (by simp) hx,y x _ (by simp) hx⟩)).shape h2
theorem aIX (w:World) (h:dK w L hb M X) (hk:M.Ok) (x s y:Int) (hx:wfI x) (hy:wfI y):Calls prog 127 #[.pointer (some ⟨hb,0,none⟩),.int .i64 x,.int .i64 s,.int .i64 y] w (vY w L hb (.int .i64 (M.set x s y).1) (M.set x s y).2):=by
 refine aF fun R hR=>?_
 cases ho:M.ob x with
 | none=>
  have hr:M.set x s y=(3,M):=by unfold Hp.set;rw [ho]
  rw [hr] at hR;have h1:=xG w h x s hx ho;have HD:=aA (vY.none (r:=.int .i64 3) h (lN.refl w));clear h hr ho hk;go_in;go_wp2_with fail;refine h1.mono ?_;rintro e _ ⟨rfl,rfl⟩;go_wp2;exact hR.out _ _ HD.out
 | some o=>
  by_cases hs:s<0\/(o.slots.length:Int)<=s
  ·have hr:M.set x s y=(1,M):=by unfold Hp.set;rw [ho];simp only;rw [if_pos hs]
   rw [hr] at hR;have h1:=aBm w h x s hx ho hs;have HD:=aA (vY.none (r:=.int .i64 1) h (lN.refl w));clear h hr ho hs hk;go_in;go_wp2_with fail;refine h1.mono ?_;rintro e _ ⟨rfl,rfl⟩;go_wp2;exact hR.out _ _ HD.out
  obtain ⟨n,rfl⟩:∃ n:Nat,s=n:=⟨s.toNat,by omega⟩;have hn:n<o.slots.length:=by omega
  have h1:=aEk w h x n hx ho hs;have h2:=uH w (h.th x o ho) (hk.th x o ho) hn;have x3:=h.cells.2.1;have h5:M.set x n y=if M.fits (gB o.refs n) y then (0,⟨(M.P.setCell (o.addr n) y).2,dZ M.ob x (some (o.put n y))⟩) else (1,M):=by unfold Hp.set;rw [ho];simp only;rw [if_neg hs,Int.toNat_natCast]
  cases hf:M.fits (gB o.refs n) y
  ·have hr:M.set x n y=(1,M):=by rw [h5,hf];rfl
   rw [hr] at hR;have HD:=aA (vY.none (r:=.int .i64 1) h (lN.refl w))
   cases hg:gB o.refs n
   ·rw [hg] at h2 hf;have d:iT y=false:=hf;unfold iT at d;simp only [decide_eq_false_iff_not] at d;clear hf hr h5 hk hg hs x3
    by_cases x7:y < -2147483648
    ·clear d;go_in;go_wp2_with fail;refine h1.mono ?_;rintro e _ ⟨rfl,rfl⟩;go_wp2_with fail;refine h2.mono ?_;rintro e _ ⟨rfl,rfl⟩;go_wp2;exact hR.out _ _ HD.out
    have x8:2147483647<y:=by omega
    clear d;go_in;go_wp2_with fail;refine h1.mono ?_;rintro e _ ⟨rfl,rfl⟩;go_wp2_with fail;refine h2.mono ?_;rintro e _ ⟨rfl,rfl⟩;go_wp2;exact hR.out _ _ HD.out
   rw [hg] at h2 hf;have d:(decide (y=0) || (M.ob y).isSome)=false:=hf;simp only [Bool.or_eq_false_iff,decide_eq_false_iff_not] at d;have x5:M.ob y=none:=by
    cases e:M.ob y with
    | none=>rfl
    | some o'=>rw [e] at d;cases d.2
   have hl:=h.yR hy x5;have h7:(y != 0)=true:=by simpa using d.1
   clear hf d hr h5 hk hg hs x5;go_in;go_wp2_with fail;refine h1.mono ?_;rintro e _ ⟨rfl,rfl⟩;go_wp2_with fail;refine h2.mono ?_;rintro e _ ⟨rfl,rfl⟩;go_wp2;exact hR.out _ _ HD.out
  have hr:M.set x n y=(0,⟨(M.P.setCell (o.addr n) y).2,dZ M.ob x (some (o.put n y))⟩):=by rw [h5,hf];rfl
  rw [hr] at hR;have h8:Hid (Calls prog 196 #[.pointer (some ⟨X.blk x,0,none⟩),.int .i64 n] w.drew (aO w.drew (.int .i64 (o.addr n)))):=zW w.drew (h.drew.th x o ho) hk ho hn;have x2:(M.P.setCell (o.addr n) y).1=0:=by
   unfold Pl.setCell;rw [if_pos (hk.kM ho hn).2]
  have h6:Hid (Calls prog 199 #[.pointer (some ⟨X.pp,0,none⟩),.int .i64 (o.addr n),.int .i64 y] w.drew fun e w'=>e=.returned (.int .i64 0)/\dP w' X.pp X.pb (M.P.setCell (o.addr n) y).2/\Only [X.pb] w.drew w'):=by
   have:=iP w.drew X.pp X.pb M.P h.drew.pool (o.addr n) y;rw [x2] at this;exact this
  have h3:Hid (∀ w',dP w' X.pp X.pb (M.P.setCell (o.addr n) y).2->Only [X.pb] w.drew w'->vY w L hb (.int .i64 0) ⟨(M.P.setCell (o.addr n) y).2,dZ M.ob x (some (o.put n y))⟩ (.returned (.int .i64 0)) w'):=fun w' hp hg=>by
   have x4:Only [X.pb] w w':=((Only.refl [X.pb] w).drew).trans hg (fun x hx=>.inl hx);refine ⟨rfl,L,X,h.gJ x4 hp (fun k=>?_) (fun k o' hk'=>?_),fun k hk=>.inl hk,x4.toP (fun x hx=>.inl (by simp at hx;rw [hx,h.Lpb];simp))⟩
   ·by_cases e:k=x
    ·rw [e,aY,ho];rfl
    rw [bD _ _ e]
   rcases aW hk' with ⟨rfl,rfl⟩|⟨_,e2⟩
   ·exact ⟨o,ho,rfl,rfl,rfl,by simp [Th.put],rfl⟩
   exact ⟨o',e2,Th.Shape.refl _⟩
  have d0:w.drew.cell? ⟨hb,0,none⟩=some (.pointer (some ⟨X.pp,0,none⟩)):=h.cells.1;obtain ⟨ad,x1⟩:∃ z,z=o.addr n:=⟨_,rfl⟩;rw [<-x1] at h8 h6 h3 hR;obtain ⟨P2,h9⟩:∃ z,z=(M.P.setCell ad y).2:=⟨_,rfl⟩;rw [<-h9] at h6 h3 hR
  cases hg:gB o.refs n
  ·rw [hg] at h2 hf;have d:iT y=true:=hf;unfold iT at d;simp only [decide_eq_true_eq] at d;obtain ⟨x7,x8⟩:=d;clear hf hr h5 hk hg hs x3 x1 h9 x2 ho hn;go_in;go_wp2_with fail;refine h1.mono ?_;rintro e _ ⟨rfl,rfl⟩;go_wp2_with fail;refine h2.mono ?_;rintro e _ ⟨rfl,rfl⟩;go_wp2;go_region_held3 (fun w'=>w'.cell? ⟨hb,0,none⟩=some (.pointer (some ⟨X.pp,0,none⟩)))
    (first|(exact d0)|(exact h0.cell d0 (by simp;rintro rfl;have:=h.Lm;rw [h.Lpb] at this;cases this)))
    (first
     | (go_at_call 196;refine h8.out.mono ?_;rintro e _ ⟨rfl,rfl⟩)
     | (go_at_call 199;refine h6.out.mono ?_;rintro e w3 ⟨rfl,h4,h0⟩))
   have HE:=aA (h3.out w3 h4 h0);clear h4 h0 h3;go_wp2;exact hR.out _ _ HE.out
  rw [hg] at h2 hf;have d:(decide (y=0) || (M.ob y).isSome)=true:=hf;simp only [Bool.or_eq_true,decide_eq_true_eq] at d
  by_cases h7:y=0
  ·subst h7;clear hf d hr h5 hk hg hs x3 x1 h9 x2 ho hn;go_in;go_wp2_with fail;refine h1.mono ?_;rintro e _ ⟨rfl,rfl⟩;go_wp2_with fail;refine h2.mono ?_;rintro e _ ⟨rfl,rfl⟩;go_wp2;go_region_held3 (fun w'=>w'.cell? ⟨hb,0,none⟩=some (.pointer (some ⟨X.pp,0,none⟩)))
    (first|(exact d0)|(exact h0.cell d0 (by simp;rintro rfl;have:=h.Lm;rw [h.Lpb] at this;cases this)))
    (first
     | (go_at_call 196;refine h8.out.mono ?_;rintro e _ ⟨rfl,rfl⟩)
     | (go_at_call 199;refine h6.out.mono ?_;rintro e w3 ⟨rfl,h4,h0⟩))
   have HE:=aA (h3.out w3 h4 h0);clear h4 h0 h3;go_wp2;exact hR.out _ _ HE.out
  have x9:∃ o',M.ob y=some o':=by
   cases e:M.ob y with
   | none=>rw [e] at d;simp [h7] at d
   | some o'=>exact ⟨o',rfl⟩
  obtain ⟨o',x6⟩:=x9;have hl:=h.yQ hy x6;have y0:(y != 0)=true:=by simpa using h7
  clear hf d hr h5 hk hg hs x1 h9 x2 ho hn h7 x6;go_in;go_wp2_with fail;refine h1.mono ?_;rintro e _ ⟨rfl,rfl⟩;go_wp2_with fail;refine h2.mono ?_;rintro e _ ⟨rfl,rfl⟩;go_wp2;go_region_held3 (fun w'=>w'.cell? ⟨hb,0,none⟩=some (.pointer (some ⟨X.pp,0,none⟩)))
   (first|(exact d0)|(exact h0.cell d0 (by simp;rintro rfl;have:=h.Lm;rw [h.Lpb] at this;cases this)))
   (first
    | (go_at_call 196;refine h8.out.mono ?_;rintro e _ ⟨rfl,rfl⟩)
    | (go_at_call 199;refine h6.out.mono ?_;rintro e w3 ⟨rfl,h4,h0⟩))
  have HE:=aA (h3.out w3 h4 h0);clear h4 h0 h3;go_wp2;exact hR.out _ _ HE.out
end
end Go.Proofs.YthflghdaejbdkaaGreat
