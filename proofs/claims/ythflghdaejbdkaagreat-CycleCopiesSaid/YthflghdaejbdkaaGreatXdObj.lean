/- Lemmas of this claim. -/
import Derived.Test.YthflghdaejbdkaaGreatXdOMaps
import Derived.Test.YthflghdaejbdkaaGreatXdOModel
import Derived.Test.YthflghdaejbdkaaGreatXdInts
import Derived.IntWalk
namespace Go.Proofs.YthflghdaejbdkaaGreat
open _root_.Go.Proofs.Tryz (prog)
open Go.RowKit Go.Maps
set_option maxHeartbeats 1600000
set_option maxRecDepth 100000
set_option linter.unusedVariables false
inductive Lb|mem|pool|pages|map|th (h:Int)|rb (h:Int)|bl (h:Int)
 deriving DecidableEq
def Th.kD (o:Th):List Bool:=if o.kind=2 then o.refs else []
def zA (o:Th) (rv bv:Value):List Value:=[.int .i64 o.kind,.int .i64 o.cls,.int .i64 o.slots.length,rv,bv]
structure aDk (w:World) (L:Nat->Option Lb) (h:Int) (b:Nat) (rv bv:Value) (o:Th):Prop where
 row:∃ T,Row w b T (zA o rv bv)
 Lth:L b=some (.th h)
 rb:Bls w 0 rv o.kD
 Lr:∀ g,rv.ownBlock=some g->L g=some (.rb h)
 bl:aO w 0 bv o.blocks
 Ll:∀ g,bv.ownBlock=some g->L g=some (.bl h)
structure HX where
 pp:Nat
 pb:Nat
 mb:Nat
 blk:Int->Nat
 rv:Int->Value
 bv:Int->Value
structure dH (w:World) (L:Nat->Option Lb) (hb:Nat) (M:Hp) (X:HX):Prop where
 lt:∀ k,L k≠none->k<w.heap.size
 mem:∃ T,Row w hb T [.pointer (some ⟨X.pp,0,none⟩),.map (some X.mb)]
 Lm:L hb=some .mem
 pool:dM w X.pp X.pb M.P
 Lpp:L X.pp=some .pool
 Lpb:L X.pb=some .pages
 mp:dL w X.mb 192 (fun h=>(M.ob h).map fun _=>X.blk h)
 Lp:L X.mb=some .map
 th:∀ h o,M.ob h=some o->aDk w L h (X.blk h) (X.rv h) (X.bv h) o
section
variable {w w':World} {S:Nat->Prop} {L L':Nat->Option Lb} {hb:Nat} {M:Hp} {X:HX}
theorem fP.bW {b o:Nat} {p:Pg} (h:fP w b o p) (hg:aI S w w') (hS:¬ S b):fP w' b o p:=fun r hr=>hg.cell (h r hr) hS
theorem dM.bW {p b:Nat} {P:Pl} (h:dM w p b P) (hg:aI S w w') (h1:¬ S p) (h2:¬ S b):dM w' p b P:=
 ⟨h.hp.imp fun _ x=>x.imp fun _ y=>hg.row y h1,h.hb.imp fun _ x=>x.imp fun _ y=>hg.row y h2,fun i hi=>(h.pg i hi).bW hg h2,h.ne,h.n1,h.n24,h.ok⟩
theorem aDk.only {h:Int} {b:Nat} {rv bv:Value} {o:Th} (k:aDk w L h b rv bv o) (hg:aI S w w') (hS:∀ x,S x->L x≠some (.th h)/\L x≠some (.rb h)/\L x≠some (.bl h)):aDk w' L h b rv bv o:=by
 obtain ⟨⟨T,h1⟩,h2,h3,h4,h5,h6⟩:=k;exact ⟨⟨T,hg.row h1 (fun x=>(hS b x).1 h2)⟩,h2,h3.bW hg (fun g hgv x=>(hS g x).2.1 (h4 g hgv)),h4,h5.bW hg (fun g hgv x=>(hS g x).2.2 (h6 g hgv)),h6⟩
theorem dH.only (h:dH w L hb M X) (hg:aI S w w') (hS:∀ k,S k->L k=none):dH w' L hb M X:=by
 have hne:∀ k ℓ,S k->L k≠some ℓ:=fun k ℓ hk e=>by rw [hS k hk] at e;cases e
 refine ⟨fun k hk=>Nat.lt_of_lt_of_le (h.lt k hk) hg.size,?_,h.Lm,h.pool.bW hg (fun x=>hne _ _ x h.Lpp) (fun x=>hne _ _ x h.Lpb),h.Lpp,h.Lpb,h.mp.only hg (fun x=>hne _ _ x h.Lp),h.Lp,
  fun k t hk=>(h.th k t hk).only hg (fun x hx=>⟨hne x _ hx,hne x _ hx,hne x _ hx⟩)⟩
 obtain ⟨T,hr⟩:=h.mem;exact ⟨T,hg.row hr (fun x=>hne _ _ x h.Lm)⟩
theorem dH.aN (h:dH w L hb M X) (hg:Only [] w w'):dH w' L hb M X:=h.only (hg.vW (S:=fun _=>False)) (fun _ x=>x.elim)
theorem dH.drewN (h:dH w L hb M X) (n:Nat):dH (w.drewN n) L hb M X:=h.only ((aI.refl (fun _=>False) w).drewN n) (fun _ x=>x.elim)
theorem dH.drew (h:dH w L hb M X):dH w.drew L hb M X:=h.only ((aI.refl (fun _=>False) w).drew) (fun _ x=>x.elim)
theorem qN {ℓ:Lb} {g:Nat} (hL:∀ k,L k≠none->L' k=L k) (h:L g=some ℓ):L' g=some ℓ:=by rw [hL g (by rw [h];simp)];exact h
theorem aDk.lab {h:Int} {b:Nat} {rv bv:Value} {o:Th} (k:aDk w L h b rv bv o) (hL:∀ k,L k≠none->L' k=L k):aDk w L' h b rv bv o:=
 ⟨k.row,qN hL k.Lth,k.rb,fun g hg=>qN hL (k.Lr g hg),k.bl,fun g hg=>qN hL (k.Ll g hg)⟩
theorem dH.cells (h:dH w L hb M X):w.cell? ⟨hb,0,none⟩=some (.pointer (some ⟨X.pp,0,none⟩))/\w.cell? ⟨hb,1,none⟩=some (.map (some X.mb))/\∀ i,w.frozen? ⟨hb,i,none⟩=false:=by
 obtain ⟨T,hr⟩:=h.mem;exact ⟨hr.cell 0 rfl,hr.cell 1 rfl,fun i=>hr.free i⟩
theorem dH.look (h:dH w L hb M X) {x:Int} (hx:wfI x):(Instr.lookup 173 (.map (some X.mb)) (.int .i64 x) false).run prog w=.ok (mkP ((M.ob x).map fun _=>X.blk x)) w:=h.mp.look hx
theorem dH.xM (h:dH w L hb M X) {x:Int} (hx:wfI x) (ho:M.ob x=none):(Instr.lookup 173 (.map (some X.mb)) (.int .i64 x) false).run prog w=.ok (.pointer none) w:=by
 have:=h.look hx;rw [ho] at this;exact this
theorem dH.xK (h:dH w L hb M X) {x:Int} (hx:wfI x) {o:Th} (ho:M.ob x=some o):(Instr.lookup 173 (.map (some X.mb)) (.int .i64 x) false).run prog w=.ok (.pointer (some ⟨X.blk x,0,none⟩)) w:=by
 have:=h.look hx;rw [ho] at this;exact this
theorem aDk.cells {h:Int} {b:Nat} {rv bv:Value} {o:Th} (k:aDk w L h b rv bv o):w.cell? ⟨b,0,none⟩=some (.int .i64 o.kind)/\w.cell? ⟨b,1,none⟩=some (.int .i64 o.cls)/\w.cell? ⟨b,2,none⟩=some (.int .i64 o.slots.length)/\w.cell? ⟨b,3,none⟩=some rv/\w.cell? ⟨b,4,none⟩=some bv:=by
 obtain ⟨T,hr⟩:=k.row;exact ⟨hr.cell 0 rfl,hr.cell 1 rfl,hr.cell 2 rfl,hr.cell 3 rfl,hr.cell 4 rfl⟩
end
def aPj (w:World) (v:Value):Prop:=v=.pointer none\/∃ b,v=.pointer (some ⟨b,0,none⟩)/\w.cell? ⟨b,0,none⟩=some (.pointer none)
theorem aIH (w:World) (v:Value) (h:aPj w v):Calls prog 130 #[v] w (aK w (.bool true)):=by
 refine aF fun R hR=>?_;rcases h with rfl|⟨b,rfl,hc⟩<;>
 (go_in
  go_wp2_with fail;exact hR.out _ _ ⟨rfl,rfl⟩)
section
variable {L:Nat->Option Lb} {hb:Nat} {M:Hp} {X:HX}
theorem jB (w:World) (h:dH w L hb M X):Calls prog 130 #[.pointer (some ⟨hb,0,none⟩)] w (aK w (.bool false)):=by
 refine aF fun R hR=>?_;have h1:=h.cells.1;clear h;go_in;go_wp2_with fail;exact hR.out _ _ ⟨rfl,rfl⟩
theorem aOT (w:World) (v:Value) (h:aPj w v) (x:Int):Calls prog 191 #[v,.int .i64 x] w (aK w (.tuple #[.pointer none,.int .i64 1])):=by
 refine aF fun R hR=>?_;have h1:=aIH w v h;clear h;go_in;go_wp2_with fail;refine h1.mono ?_;rintro e _ ⟨rfl,rfl⟩;go_wp2_with fail;exact hR.out _ _ ⟨rfl,rfl⟩
theorem nC (w:World) (h:dH w L hb M X) (x:Int) (hx:wfI x) (ho:M.ob x=none):Calls prog 191 #[.pointer (some ⟨hb,0,none⟩),.int .i64 x] w (aK w (.tuple #[.pointer none,.int .i64 3])):=by
 refine aF fun R hR=>?_;have h1:=jB w h;have h2:=h.cells.2.1;have h3:=h.xM hx ho;clear h ho;go_in;go_wp2_with fail;refine h1.mono ?_;rintro e _ ⟨rfl,rfl⟩;go_wp2_with fail;exact hR.out _ _ ⟨rfl,rfl⟩
theorem kZ (w:World) (h:dH w L hb M X) (x:Int) (hx:wfI x) {o:Th} (ho:M.ob x=some o):Calls prog 191 #[.pointer (some ⟨hb,0,none⟩),.int .i64 x] w (aK w (.tuple #[.pointer (some ⟨X.blk x,0,none⟩),.int .i64 0])):=by
 refine aF fun R hR=>?_;have h1:=jB w h;have h2:=h.cells.2.1;have h3:=h.xK hx ho;clear h ho;go_in;go_wp2_with fail;refine h1.mono ?_;rintro e _ ⟨rfl,rfl⟩;go_wp2_with fail;exact hR.out _ _ ⟨rfl,rfl⟩
theorem vZ (w:World) (h:dH w L hb M X) (x s:Int) (hx:wfI x) (ho:M.ob x=none):Calls prog 194 #[.pointer (some ⟨hb,0,none⟩),.int .i64 x,.int .i64 s] w (aK w (.tuple #[.pointer none,.int .i64 3])):=by
 refine aF fun R hR=>?_;have h1:=nC w h x hx ho;clear h ho;go_in;go_wp2_with fail;refine h1.mono ?_;rintro e _ ⟨rfl,rfl⟩;go_wp2_with fail;exact hR.out _ _ ⟨rfl,rfl⟩
theorem aAE (w:World) (h:dH w L hb M X) (x s:Int) (hx:wfI x) {o:Th} (ho:M.ob x=some o) (hs:s<0\/(o.slots.length:Int)<=s):Calls prog 194 #[.pointer (some ⟨hb,0,none⟩),.int .i64 x,.int .i64 s] w (aK w (.tuple #[.pointer none,.int .i64 1])):=by
 refine aF fun R hR=>?_;have h1:=kZ w h x hx ho;have h2:=(h.th x o ho).cells.2.2.1;clear h ho;generalize o.slots.length=n at *
 by_cases h0:s<0
 ·go_in;go_wp2_with fail;refine h1.mono ?_;rintro e _ ⟨rfl,rfl⟩;go_wp2_with fail;exact hR.out _ _ ⟨rfl,rfl⟩
 have h3:(n:Int)<=s:=by omega
 clear hs;go_in;go_wp2_with fail;refine h1.mono ?_;rintro e _ ⟨rfl,rfl⟩;go_wp2_with fail;exact hR.out _ _ ⟨rfl,rfl⟩
theorem aDs (w:World) (h:dH w L hb M X) (x s:Int) (hx:wfI x) {o:Th} (ho:M.ob x=some o) (hs:¬ (s<0\/(o.slots.length:Int)<=s)):Calls prog 194 #[.pointer (some ⟨hb,0,none⟩),.int .i64 x,.int .i64 s] w (aK w (.tuple #[.pointer (some ⟨X.blk x,0,none⟩),.int .i64 0])):=by
 refine aF fun R hR=>?_;have h1:=kZ w h x hx ho;have h2:=(h.th x o ho).cells.2.2.1;clear h ho;generalize o.slots.length=n at*;have h0:¬ s<0:=by omega
 have h3:¬ (n:Int)<=s:=by omega
 clear hs;go_in;go_wp2_with fail;refine h1.mono ?_;rintro e _ ⟨rfl,rfl⟩;go_wp2_with fail;exact hR.out _ _ ⟨rfl,rfl⟩
theorem sS (w:World) {h:Int} {b:Nat} {rv bv:Value} {o:Th} (k:aDk w L h b rv bv o) (hok:o.ok1) {s:Nat} (hs:s<o.slots.length) :
  Calls prog 198 #[.pointer (some ⟨b,0,none⟩),.int .i64 s] w (aK w (.bool (gB o.refs s))):=by
 refine aF fun R hR=>?_;have c0:=k.cells.1;rcases hok.kd with ⟨e1,_⟩|⟨e1,_,_,e2⟩|⟨e1,_,_,_,e2⟩
 ·have c3:=k.cells.2.2.2.1;have hr:=k.rb;unfold Th.kD at hr;rw [if_pos e1] at hr;have hl:s<o.refs.length:=by rw [hok.rl];exact hs
  rcases hr.form with ⟨_,e3⟩|⟨g,cap,e3,_,_,_,hc⟩
  ·rw [e3] at hl;simp at hl
  have hcs:=hc s hl;rw [e1] at c0;rw [e3] at c3;have h1:(s:Int)<(o.refs.length:Int):=by omega
  have h0:(0:Int)<=s:=by omega
  clear hr hc k hok e3 hs e1;generalize gB o.refs s=r at*;generalize o.refs.length=n at*;go_in;go_wp2_with fail;exact hR.out _ _ ⟨rfl,rfl⟩
 ·rw [e1] at c0;rw [e2 s] at hR;clear k hok e1 e2;go_in;go_wp2_with fail;exact hR.out _ _ ⟨rfl,rfl⟩
 rw [e1] at c0;rw [e2 s hs] at hR;clear k hok e1 e2;go_in;go_wp2_with fail;exact hR.out _ _ ⟨rfl,rfl⟩
end
theorem Hp.Ok.vT {M:Hp} (hk:M.Ok) {h:Int} {o:Th} (ho:M.ob h=some o) {m:Nat} (hm:m<o.blocks.length):0<=gI o.blocks m/\gI o.blocks m<384:=by
 have h1:=(hk.bk h o ho m hm).range (hk.isC ho hm);have h2:=(hk.isC ho hm).sz;have h3:=hk.n24;omega
section
variable {L:Nat->Option Lb} {hb:Nat} {M:Hp} {X:HX}
theorem aO.cellsOf {w:World} {base:Nat} {v:Value} {l:List Int} (h:aO w base v l) (h0:1<=l.length):∃ g cap,v=.slice (some ⟨g,0,none⟩) l.length cap/\∀ i,i<l.length->w.cell? ⟨g,i,none⟩=some (.int .i64 (gI l i)):=by
 rcases h.form with ⟨_,e⟩|⟨g,cap,e,_,_,_,hc⟩
 ·rw [e] at h0;simp at h0
 exact ⟨g,cap,e,hc⟩
theorem yT (w:World) {h:Int} {b:Nat} {rv bv:Value} {o:Th} (k:aDk w L h b rv bv o) (hk:M.Ok) (ho:M.ob h=some o) {s:Nat} (hs:s<o.slots.length) :
  Calls prog 196 #[.pointer (some ⟨b,0,none⟩),.int .i64 s] w (aK w (.int .i64 (o.addr s))):=by
 refine aF fun R hR=>?_;obtain ⟨hb1,hb2,hb3,hb4⟩:=hk.aBo ho;obtain ⟨g,cap,e,hc⟩:=k.bl.cellsOf hb1;have c4:=k.cells.2.2.2.2;rw [e] at c4;have hr0:=hk.vT ho (m:=0) (by omega);have aRt:=(hk.th h o ho).le
 by_cases h1:1<o.blocks.length
 ·have h7:=hb3.1 h1;have hl:=hb4 h7;have hm:1+s / 8<o.blocks.length:=by omega
  have hcs:=hc (1+s / 8) hm;have hr:=hk.vT ho hm;have hR2:Hid (o.addr s=gI o.blocks (1+s / 8)+((s % 8:Nat):Int)):=by show _=_;unfold Th.addr;rw [if_pos h1]
  rw [hR2.out] at hR;obtain ⟨z,hz⟩:∃ z,z=gI o.blocks (1+s / 8):=⟨_,rfl⟩;rw [<-hz] at hcs hr hR;obtain ⟨q,hq⟩:∃ q,q=s / 8:=⟨_,rfl⟩;obtain ⟨r,hrr⟩:∃ r,r=s % 8:=⟨_,rfl⟩;rw [<-hq] at hcs hm;rw [<-hrr] at hR;have hqi:(s:Int) / 8=(q:Int):=by omega
  have hri:(s:Int) % 8=(r:Int):=by omega
  have hr8:(r:Int)<8:=by omega
  have aSm:(0:Int)<=r:=by omega
  have aSp:(0:Int)<=q:=by omega
  have hs0:(0:Int)<=s:=by omega
  have hq1:(q:Int)<=6:=by omega
  obtain ⟨n,hn⟩:∃ n,n=o.blocks.length:=⟨_,rfl⟩;rw [<-hn] at c4 h1 hm;have h1i:(1:Int)<n:=by omega
  have hmi:(1:Int)+q<n:=by omega
  obtain ⟨hz1,hz2⟩:=hr;have hsb:(s:Int)<=48:=by omega
  clear k hk ho e hc hb1 hb2 hb3 hb4 h7 hl hz hq hrr hn hR2 hr0 aRt h1 hs;go_in;go_wp2_with fail;exact hR.out _ _ ⟨rfl,rfl⟩
 have hR2:Hid (o.addr s=gI o.blocks 0+1+(s:Int)):=by show _=_;unfold Th.addr;rw [if_neg h1]
 rw [hR2.out] at hR;have hc0:=hc 0 (by omega);have hbl:o.blocks.length=1:=by omega
 rw [hbl] at c4;obtain ⟨z,hz⟩:∃ z,z=gI o.blocks 0:=⟨_,rfl⟩;rw [<-hz] at hc0 hr0 hR;obtain ⟨hz1,hz2⟩:=hr0;have hs0:(0:Int)<=s:=by omega
 have hsb:(s:Int)<=48:=by omega
 clear k hk ho e hc hb1 hb2 hb3 hb4 hz hR2 aRt h1 hbl hs;go_in;go_wp2_with fail;exact hR.out _ _ ⟨rfl,rfl⟩
theorem uY (w:World) (h:dH w L hb M X) (x:Int) (hx:wfI x):Calls prog 162 #[.pointer (some ⟨hb,0,none⟩),.int .i64 x] w (Same w (.tuple #[.int .i64 (M.type x).1,.int .i64 (M.type x).2.1,.int .i64 (M.type x).2.2.1,.int .i64 (M.type x).2.2.2])):=by
 refine aF fun R hR=>?_
 cases ho:M.ob x with
 | none=>
  have hr:M.type x=(0,0,0,3):=by unfold Hp.type;rw [ho]
  rw [hr] at hR;have h1:=nC w h x hx ho;clear h hr ho;go_in;go_wp2_with fail;refine h1.mono ?_;rintro e _ ⟨rfl,rfl⟩;go_wp2_with fail;refine bodyPost_ret (kJ rfl _ _ _) rfl ?_;exact hR.out _ _ ⟨rfl,0,rfl⟩
 | some o=>
  have hr:M.type x=(o.kind,o.cls,(o.slots.length:Int),0):=by unfold Hp.type;rw [ho]
  rw [hr] at hR;have h1:=kZ w h x hx ho;obtain ⟨c0,c1,c2,_⟩:=(h.th x o ho).cells;clear h hr ho;generalize o.slots.length=n at*;generalize o.kind=kd at*;generalize o.cls=cl at*;go_in;go_wp2_with fail;refine h1.mono ?_;rintro e _ ⟨rfl,rfl⟩;go_wp2_with fail;go_quiet (fail);go_wp2_with fail;refine bodyPost_ret (kJ rfl _ _ _) rfl ?_;exact hR.out _ _ ⟨rfl,_,rfl⟩
theorem qP (w:World) (h:dH w L hb M X) (hk:M.Ok) (x s:Int) (hx:wfI x):Calls prog 125 #[.pointer (some ⟨hb,0,none⟩),.int .i64 x,.int .i64 s] w (aK w (.tuple #[.bool (M.isRef x s).1,.int .i64 (M.isRef x s).2])):=by
 refine aF fun R hR=>?_
 cases ho:M.ob x with
 | none=>
  have hr:M.isRef x s=(false,3):=by unfold Hp.isRef;rw [ho]
  rw [hr] at hR;have h1:=vZ w h x s hx ho;clear h hr ho;go_in;go_wp2_with fail;refine h1.mono ?_;rintro e _ ⟨rfl,rfl⟩;go_wp2_with fail;exact hR.out _ _ ⟨rfl,rfl⟩
 | some o=>
  by_cases hs:s<0\/(o.slots.length:Int)<=s
  ·have hr:M.isRef x s=(false,1):=by unfold Hp.isRef;rw [ho];simp only;rw [if_pos hs]
   rw [hr] at hR;have h1:=aAE w h x s hx ho hs;clear h hr ho hs;go_in;go_wp2_with fail;refine h1.mono ?_;rintro e _ ⟨rfl,rfl⟩;go_wp2_with fail;exact hR.out _ _ ⟨rfl,rfl⟩
  have hr:M.isRef x s=(gB o.refs s.toNat,0):=by unfold Hp.isRef;rw [ho];simp only;rw [if_neg hs]
  rw [hr] at hR;have h1:=aDs w h x s hx ho hs;obtain ⟨n,rfl⟩:∃ n:Nat,s=n:=⟨s.toNat,by omega⟩;have h2:=sS w (h.th x o ho) (hk.th x o ho) (s:=n) (by omega);rw [Int.toNat_natCast] at hR;clear h hr ho hs hk;go_in;go_wp2_with fail;refine h1.mono ?_;rintro e _ ⟨rfl,rfl⟩;go_wp2_with fail;refine h2.mono ?_;rintro e _ ⟨rfl,rfl⟩;go_wp2_with fail;exact hR.out _ _ ⟨rfl,rfl⟩
theorem aEa (w:World) (h:dH w L hb M X) (hk:M.Ok) (x s:Int) (hx:wfI x):Calls prog 122 #[.pointer (some ⟨hb,0,none⟩),.int .i64 x,.int .i64 s] w (Same w (.tuple #[.int .i64 (M.get x s).1,.int .i64 (M.get x s).2])):=by
 refine aF fun R hR=>?_
 cases ho:M.ob x with
 | none=>
  have hr:M.get x s=(0,3):=by unfold Hp.get;rw [ho]
  rw [hr] at hR;have h1:=vZ w h x s hx ho;clear h hr ho;go_in;go_wp2_with fail;refine h1.mono ?_;rintro e _ ⟨rfl,rfl⟩;go_wp2_with fail;exact hR.out _ _ ⟨rfl,0,rfl⟩
 | some o=>
  by_cases hs:s<0\/(o.slots.length:Int)<=s
  ·have hr:M.get x s=(0,1):=by unfold Hp.get;rw [ho];simp only;rw [if_pos hs]
   rw [hr] at hR;have h1:=aAE w h x s hx ho hs;clear h hr ho hs;go_in;go_wp2_with fail;refine h1.mono ?_;rintro e _ ⟨rfl,rfl⟩;go_wp2_with fail;exact hR.out _ _ ⟨rfl,0,rfl⟩
  obtain ⟨n,rfl⟩:∃ n:Nat,s=n:=⟨s.toNat,by omega⟩;have hr:M.get x n=(gI o.slots n,0):=by unfold Hp.get;rw [ho];simp only;rw [if_neg hs,Int.toNat_natCast]
  rw [hr] at hR;have hn:n<o.slots.length:=by omega
  have h1:=aDs w h x n hx ho hs;have hcl:∀ m,Calls prog 196 #[.pointer (some ⟨X.blk x,0,none⟩),.int .i64 n] (w.drewN m) fun e w''=>e=.returned (.int .i64 (o.addr n))/\∃ k,w''=w.drewN k:=fun m=>
   aS (yT (w.drewN m) ((h.drewN m).th x o ho) hk ho hn)
  have hpc:∀ m,Calls prog 195 #[.pointer (some ⟨X.pp,0,none⟩),.int .i64 (o.addr n)] (w.drewN m) fun e w''=>e=.returned (.tuple #[.int .i64 (gI o.slots n),.int .i64 0])/\∃ k,w''=w.drewN k:=fun m=>by
   have:=aFk (w.drewN m) X.pp X.pb M.P (h.drewN m).pool (o.addr n);rw [(hk.kH ho hn).1] at this;exact Calls.quiet_of this
  have h0:=h.cells.1;generalize o.addr n=ad at*;generalize gI o.slots n=z at*;clear h hr ho hs hk hn;go_in;go_wp2_with fail;refine h1.mono ?_;rintro e _ ⟨rfl,rfl⟩;go_wp2_with fail;go_quiet ((first|(go_at_call 196;with_reducible exact hcl _)|(go_at_call 195;with_reducible exact hpc _)))
  go_wp2_with fail;exact hR.out _ _ ⟨rfl,_,rfl⟩
end
set_option maxHeartbeats 3200000
def aMq (w:World) (l:List Int) (e:Ending) (w':World):Prop:=∃ v,e=.returned v/\aO w' w.heap.size v l/\Only [] w w'
def aJX (w:World) (r:List Int×Int) (e:Ending) (w':World):Prop:=∃ v,e=.returned (.tuple #[v,.int .i64 r.2])/\aO w' w.heap.size v r.1/\Only [] w w'
theorem nR {w wr w2:World} {o:Obj} {v:Value} {l:List Int} (hO:Only [] w wr) (hi:aO wr w.heap.size v l) (ho2:Only v.ownBlock.toList (wr.alloc o) w2):Only [] w w2:=
 (hO.alloc o).trans ho2 (fun z hz=>.inr (by
  cases e:v.ownBlock with
  | none=>rw [e] at hz;simp at hz
  | some c=>rw [e] at hz;simp at hz;subst hz;exact (hi.own _ e).1))
section
variable {L:Nat->Option Lb} {hb:Nat} {M:Hp} {X:HX}
theorem aKt (w:World) (h:dH w L hb M X) (hk:M.Ok) {x:Int} {o:Th} (ho:M.ob x=some o) {k:Nat} (hn:k<o.slots.length) :
  (∀ m,Calls prog 196 #[.pointer (some ⟨X.blk x,0,none⟩),.int .i64 k] (w.drewN m) fun e w''=>e=.returned (.int .i64 (o.addr k))/\∃ k,w''=w.drewN k)/\
  ∀ m,Calls prog 195 #[.pointer (some ⟨X.pp,0,none⟩),.int .i64 (o.addr k)] (w.drewN m) fun e w''=>e=.returned (.tuple #[.int .i64 (gI o.slots k),.int .i64 0])/\∃ k,w''=w.drewN k:=by
 refine ⟨fun m=>aS (yT (w.drewN m) ((h.drewN m).th x o ho) hk ho hn),fun m=>?_⟩;have:=aFk (w.drewN m) X.pp X.pb M.P (h.drewN m).pool (o.addr k);rw [(hk.kH ho hn).1] at this;exact Calls.quiet_of this
theorem aBS (w:World) (h:dH w L hb M X) (hk:M.Ok) {x:Int} {o:Th} (ho:M.ob x=some o) :
  Calls prog 132 #[.pointer (some ⟨hb,0,none⟩),.pointer (some ⟨X.blk x,0,none⟩)] w (aMq w o.uP):=by
 refine aF fun R hR=>?_;have c2:=(h.th x o ho).cells.2.2.1;have hle:=(hk.th x o ho).le;have H:=aA h;have HK:=aA hk;have HO0:=aA ho;obtain ⟨n,hn⟩:∃ n,n=o.slots.length:=⟨_,rfl⟩;rw [<-hn] at c2 hle;have HN:=aA hn;have hR2:Hid (o.uP=o.fF n):=by show _=_;rw [hn];rfl
 rw [hR2.out] at hR;clear h hk ho hn hR2;go_in;go_wp2_with fail;clear c2;go_loopw [5,13] (fun v iv wr=>∃ k:Nat,k<=n/\iv=.int .i64 k/\aO wr w.heap.size v (o.fF k)/\Only [] w wr) (fun _ iv _=>n - (intOf iv).toNat)
 case atStart=>exact ⟨0,by omega,rfl,aO.nil _ _,Only.refl _ _⟩
 case round=>
  obtain ⟨k,hk,rfl,hi,ho⟩:=hrel;have HI:=aA hi;have HO:=aA ho;clear hi ho
  by_cases hlt:k<n
  ·have hlt1:k<o.slots.length:=by have:=HN.out;omega
   have hr:=H.out.aN HO.out;have hir:=sS wr (hr.th x o HO0.out) (HK.out.th x o HO0.out) hlt1;obtain ⟨s1,s2⟩:=aKt wr hr HK.out HO0.out hlt1;have h0:=hr.cells.1;have hstep:Hid (o.fF (k+1)=o.fF k ++ if gB o.refs k=true/\gI o.slots k≠0 then [gI o.slots k] else []):=rfl;have HLEN:=aA (o.mF k);generalize o.addr k=ad at s1 s2;generalize gI o.slots k=z at s2 hstep;clear hr hlt1
   cases hg:gB o.refs k
   ·rw [hg] at hir hstep;have hs2:Hid (o.fF (k+1)=o.fF k):=by show _=_;rw [hstep.out];simp
    clear hstep hg s1 s2;go_wp2_with fail;refine hir.mono ?_;rintro e _ ⟨rfl,rfl⟩;clear hir;go_wp2_with fail;exact ⟨⟨k+1,by omega,by go_num,by rw [hs2.out];exact HI.out,HO.out⟩,by simp [intOf];omega⟩
   rw [hg] at hir hstep
   by_cases hz:z=0
   ·subst hz;have hs2:Hid (o.fF (k+1)=o.fF k):=by show _=_;rw [hstep.out];simp
    clear hstep hg;go_wp2_with fail;refine hir.mono ?_;rintro e _ ⟨rfl,rfl⟩;clear hir;go_wp2_with fail;go_quiet ((first|(go_at_call 196;with_reducible exact s1 _)|(go_at_call 195;with_reducible exact s2 _)))
    clear s1 s2 h0;go_wp2_with fail;exact ⟨⟨k+1,by omega,by go_num,by rw [hs2.out];exact HI.out,HO.out.drewN _⟩,by simp [intOf];omega⟩
   have hs2:Hid (o.fF (k+1)=o.fF k ++ [z]):=by show _=_;rw [hstep.out];simp [hz]
   have hzb:(z != 0)=true:=by simpa using hz
   clear hstep hg hz;go_wp2_with fail;refine hir.mono ?_;rintro e _ ⟨rfl,rfl⟩;clear hir;go_wp2_with fail;go_quiet ((first|(go_at_call 196;with_reducible exact s1 _)|(go_at_call 195;with_reducible exact s2 _)))
   clear s1 s2 h0;have HO3:=aA (HO.out.drewN nq);have HI3:=aA (HI.out.drewN nq);generalize wr.drewN nq=w3 at*;go_wp2_with (at_builtin;refine bI rfl _ _ rfl w.heap.size _ _ rfl (HI3.out.alloc (.cells #[.int .i64 z] 3)) w3.heap.size z rfl ?c1 ?c2 ?c3 ?c4)
   case c1=>exact (Row.new w3 _ [_]).cell 0 rfl
   case c2=>have:=HLEN.out;omega
   case c3=>have:=HO3.out.size;simp;omega
   case c4=>
    intro v' w2 hi2 ho2 hb2;have HO4:=aA (nR HO3.out HI3.out ho2);have HI4:=aA hi2;clear hi2 ho2 hb2;go_wp2_with fail;exact ⟨⟨k+1,by omega,by go_num,by rw [hs2.out];exact HI4.out,HO4.out⟩,by simp [intOf];omega⟩
  obtain rfl:k=n:=by omega
  go_wp2_with fail;exact hR.out _ _ ⟨_,rfl,HI.out,HO.out⟩
theorem aKF (w:World) (h:dH w L hb M X) (hk:M.Ok) (x:Int) (hx:wfI x):Calls prog 154 #[.pointer (some ⟨hb,0,none⟩),.int .i64 x] w (aJX w (M.refs x)):=by
 refine aF fun R hR=>?_
 cases ho:M.ob x with
 | none=>
  have hr:M.refs x=([],3):=by unfold Hp.refs;rw [ho]
  rw [hr] at hR;have h1:=nC w h x hx ho;clear h hr ho;go_in;go_wp2_with fail;refine h1.mono ?_;rintro e _ ⟨rfl,rfl⟩;go_wp2_with fail;exact hR.out _ _ ⟨_,rfl,aO.nil _ _,Only.refl _ _⟩
 | some o=>
  have hr:M.refs x=(o.uP,0):=by unfold Hp.refs;rw [ho]
  rw [hr] at hR;have h1:=kZ w h x hx ho;have h2:=aBS w h hk ho;clear h hr ho hk;go_in;go_wp2_with fail;refine h1.mono ?_;rintro e _ ⟨rfl,rfl⟩;go_wp2_with fail;refine h2.mono ?_;rintro e w2 ⟨v,rfl,hi,ho⟩;have HI:=aA hi;have HO:=aA ho;clear hi ho h1 h2;go_wp2_with fail;exact hR.out _ _ ⟨_,rfl,HI.out,HO.out⟩
theorem lD (w:World) (h:dH w L hb M X) (hk:M.Ok) (x:Int) (hx:wfI x):Calls prog 115 #[.pointer (some ⟨hb,0,none⟩),.int .i64 x] w (aJX w (M.blocks x)):=by
 refine aF fun R hR=>?_
 cases ho:M.ob x with
 | none=>
  have hr:M.blocks x=([],3):=by unfold Hp.blocks;rw [ho]
  rw [hr] at hR;have h1:=nC w h x hx ho;clear h hr ho;go_in;go_wp2_with fail;refine h1.mono ?_;rintro e _ ⟨rfl,rfl⟩;go_wp2_with fail;exact hR.out _ _ ⟨_,rfl,aO.nil _ _,Only.refl _ _⟩
 | some o=>
  have hr:M.blocks x=(o.blocks,0):=by unfold Hp.blocks;rw [ho]
  rw [hr] at hR;have h1:=kZ w h x hx ho;obtain ⟨hb1,hb2,_⟩:=hk.aBo ho;obtain ⟨g,cap,e,hc⟩:=(h.th x o ho).bl.cellsOf hb1;have c4:=(h.th x o ho).cells.2.2.2.2;rw [e] at c4;have h2:=aAo w g o.blocks.length cap o.blocks rfl (by omega) hc;clear h hr ho hk e hc;go_in;go_wp2_with fail;refine h1.mono ?_;rintro e _ ⟨rfl,rfl⟩;go_wp2_with fail;refine h2.mono ?_;rintro e w2 ⟨v,rfl,hi,ho,_⟩;have HI:=aA hi;have HO:=aA ho;clear hi ho h1 h2;go_wp2_with fail;exact hR.out _ _ ⟨_,rfl,HI.out,HO.out⟩
end
theorem jQ {l:List Int} {y:Int}:y∈l↔∃ i,i<l.length/\gI l i=y:=by
 constructor
 ·intro h;obtain ⟨i,hi,rfl⟩:=List.getElem_of_mem h;exact ⟨i,hi,by unfold gI;rw [List.getElem?_eq_getElem hi];rfl⟩
 rintro ⟨i,hi,rfl⟩;unfold gI;rw [List.getElem?_eq_getElem hi];exact List.getElem_mem hi
theorem xQ (w:World) (v:Value) (l:List Int) (h:nI w v l) (hl:l.length<=1000000) (y:Int):Calls prog 233 #[v,.int .i64 y] w (aK w (.int .i64 (idx (fun k=>gI l k == y) l.length))):=by
 refine aF fun R hR=>?_;obtain ⟨a,c,e⟩:=h.len;subst e;have H:=aA h;obtain ⟨len,hlen⟩:∃ n,n=l.length:=⟨_,rfl⟩;have HLEN:=aA hlen;rw [<-hlen] at hl H hR;rw [<-hlen];clear h hlen;go_in;go_wp2_with fail;go_loop [5,8] (fun _ i=>∃ k:Nat,k<=len/\i=.int .i64 k/\Hid (∀ j,j<k->(gI l j == y)=false)) (fun _ i=>len - (intOf i).toNat)
 case atStart=>exact ⟨0,by omega,rfl,fun j hj=>by omega⟩
 case round=>
  obtain ⟨k,hk,rfl,hf⟩:=hrel
  by_cases hlt:k<len
  ·have hlt2:k<l.length:=by have:=HLEN.out;omega
   rcases H.out with ⟨b1,o1,d1,f1,g1⟩|⟨oa,d,f1,g1⟩;rotate_left
   ·rw [g1] at hlt2;simp at hlt2
   have e1:a=some ⟨b1,o1,none⟩:=by cases f1;rfl
   subst e1;have hcell:=g1 k hlt2;obtain ⟨x,hx⟩:∃ x,x=gI l k:=⟨_,rfl⟩;rw [<-hx] at hcell;have HX:=aA hx;clear hx g1 f1
   cases hq:(y == x)
   ·have HQ:Hid ((x == y)=false):=by show _=_;simp at hq ⊢;exact fun e=>hq e.symm
    go_wp2_with fail;go_round
    case rel=>exact ⟨k+1,by omega,by go_num,fun j hj=>by
     by_cases e:j=k
     ·rw [e,<-HX.out];exact HQ.out
     exact hf.out j (by omega)⟩
    case measure=>simp [intOf];omega
   have HQ:Hid ((x == y)=true):=by show _=_;simp at hq ⊢;exact hq.symm
   go_wp2_with fail;refine hR.out _ _ ⟨?_,rfl⟩;have e1:=kP (f:=fun k=>gI l k == y) hlt (by show (gI l k == y)=true;rw [<-HX.out];exact HQ.out) hf.out;rw [kL (by rw [e1];exact hlt),e1]
  obtain rfl:k=len:=by omega
  go_wp2_with fail;refine hR.out _ _ ⟨?_,rfl⟩;rw [qQ (by rw [fB (f:=fun k=>gI l k == y) hf.out];omega)]
theorem aNe {l:List Int} {y:Int}:decide (0<=idx (fun k=>gI l k == y) l.length)=decide (y∈l):=by
 by_cases h:fst (fun k=>gI l k == y) l.length<l.length
 ·rw [kL h];have h2:=(dN (fun k=>gI l k == y) l.length).2 h;rw [show decide (y∈l)=true from decide_eq_true (jQ.2 ⟨_,h,by simpa using h2⟩)];simp
 rw [qQ h];rw [show decide (y∈l)=false from decide_eq_false (fun hm=>by
  obtain ⟨i,hi,e⟩:=jQ.1 hm;exact h (aCO (f:=fun k=>gI l k == y) hi (by simp [e])).2.1)]
 simp
theorem oL (w:World) (v:Value) (l:List Int) (h:nI w v l) (hl:l.length<=1000000) (y:Int):Calls prog 193 #[v,.int .i64 y] w (aK w (.bool (decide (y∈l)))):=by
 refine aF fun R hR=>?_;have hi:=xQ w v l h hl y;rw [<-aNe] at hR;generalize idx (fun k=>gI l k == y) l.length=r at*;clear h;go_in;go_wp2_with fail;refine hi.mono ?_;rintro e _ ⟨rfl,rfl⟩;go_wp2_with fail;exact hR.out _ _ ⟨rfl,rfl⟩
section
variable {w w':World} {L:Nat->Option Lb} {hb:Nat} {M:Hp} {X:HX}
def uV (w:World) (L:Nat->Option Lb) (hb:Nat) (r:Value) (M':Hp) (e:Ending) (w':World):Prop:=
 e=.returned r/\∃ L' X',dH w' L' hb M' X'/\(∀ k,L' k≠none->L k≠none\/w.heap.size<=k)/\aI (fun k=>L k≠none) w w'
theorem uV.none {r:Value} (h:dH w L hb M X) (ho:lG w w'):uV w L hb r M (.returned r) w':=by
 obtain ⟨n,rfl⟩:=ho;exact ⟨rfl,L,X,h.drewN n,fun k hk=>.inl hk,(aI.refl _ _).drewN n⟩
theorem uV.none0 {r:Value} (h:dH w L hb M X) (ho:Only [] w w'):uV w L hb r M (.returned r) w':=
 ⟨rfl,L,X,h.aN ho,fun k hk=>.inl hk,ho.vW⟩
structure Th.Shape (o o':Th):Prop where
 kind:o'.kind=o.kind
 cls:o'.cls=o.cls
 refs:o'.refs=o.refs
 len:o'.slots.length=o.slots.length
 blocks:o'.blocks=o.blocks
theorem Th.Shape.refl (o:Th):o.Shape o:=⟨rfl,rfl,rfl,rfl,rfl⟩
theorem aDk.shape {h:Int} {b:Nat} {rv bv:Value} {o o':Th} (k:aDk w L h b rv bv o) (s:o.Shape o'):aDk w L h b rv bv o':=by
 have e1:zA o' rv bv=zA o rv bv:=by unfold zA;rw [s.kind,s.cls,s.len]
 have e2:o'.kD=o.kD:=by unfold Th.kD;rw [s.kind,s.refs]
 exact ⟨by rw [e1];exact k.row,k.Lth,by rw [e2];exact k.rb,k.Lr,by rw [s.blocks];exact k.bl,k.Ll⟩
theorem dH.fO {P':Pl} {ob':Int->Option Th} (h:dH w L hb M X) (hg:Only [X.pb] w w') (hp:dM w' X.pp X.pb P') (hs:∀ k,(M.ob k).isSome=(ob' k).isSome) (ho:∀ k o',ob' k=some o'->∃ o,M.ob k=some o/\o.Shape o'):dH w' L hb ⟨P',ob'⟩ X:=by
 have hP:aI (fun k=>L k=some .pages) w w':=hg.toP (fun x hx=>.inl (by simp at hx;rw [hx];exact h.Lpb));have hne:∀ k ℓ,ℓ≠Lb.pages->L k=some .pages->L k≠some ℓ:=fun k ℓ h1 hk e=>by rw [hk] at e;cases e;exact h1 rfl
 refine ⟨fun k hk=>Nat.lt_of_lt_of_le (h.lt k hk) hP.size,?_,h.Lm,hp,h.Lpp,h.Lpb,?_,h.Lp,fun k o' hk=>?_⟩
 ·obtain ⟨T,hr⟩:=h.mem;exact ⟨T,hP.row hr (fun x=>hne _ .mem (by simp) x h.Lm)⟩
 ·refine (h.mp.only hP (fun x=>hne _ .map (by simp) x h.Lp)).congr (fun k=>?_);show (M.ob k).map _=(ob' k).map _;have:=hs k
  cases h1:M.ob k<;>cases h2:ob' k<;>simp_all
 obtain ⟨o,h1,h2⟩:=ho k o' hk;exact ((h.th k o h1).only hP (fun x hx=>⟨hne x _ (by simp) hx,hne x _ (by simp) hx,hne x _ (by simp) hx⟩)).shape h2
theorem aHO (w:World) (h:dH w L hb M X) (hk:M.Ok) (x s y:Int) (hx:wfI x) (hy:wfI y):Calls prog 127 #[.pointer (some ⟨hb,0,none⟩),.int .i64 x,.int .i64 s,.int .i64 y] w (uV w L hb (.int .i64 (M.set x s y).1) (M.set x s y).2):=by
 refine aF fun R hR=>?_
 cases ho:M.ob x with
 | none=>
  have hr:M.set x s y=(3,M):=by unfold Hp.set;rw [ho]
  rw [hr] at hR;have h1:=vZ w h x s hx ho;have HD:=aA (uV.none (r:=.int .i64 3) h (lG.refl w));clear h hr ho hk;go_in;go_wp2_with fail;refine h1.mono ?_;rintro e _ ⟨rfl,rfl⟩;go_wp2_with fail;exact hR.out _ _ HD.out
 | some o=>
  by_cases hs:s<0\/(o.slots.length:Int)<=s
  ·have hr:M.set x s y=(1,M):=by unfold Hp.set;rw [ho];simp only;rw [if_pos hs]
   rw [hr] at hR;have h1:=aAE w h x s hx ho hs;have HD:=aA (uV.none (r:=.int .i64 1) h (lG.refl w));clear h hr ho hs hk;go_in;go_wp2_with fail;refine h1.mono ?_;rintro e _ ⟨rfl,rfl⟩;go_wp2_with fail;exact hR.out _ _ HD.out
  obtain ⟨n,rfl⟩:∃ n:Nat,s=n:=⟨s.toNat,by omega⟩;have hn:n<o.slots.length:=by omega
  have h1:=aDs w h x n hx ho hs;have h2:=sS w (h.th x o ho) (hk.th x o ho) hn;have hc1:=h.cells.2.1;have hr0:M.set x n y=if M.fits (gB o.refs n) y then (0,⟨(M.P.setCell (o.addr n) y).2,dX M.ob x (some (o.put n y))⟩) else (1,M):=by unfold Hp.set;rw [ho];simp only;rw [if_neg hs,Int.toNat_natCast]
  cases hf:M.fits (gB o.refs n) y
  ·have hr:M.set x n y=(1,M):=by rw [hr0,hf];rfl
   rw [hr] at hR;have HD:=aA (uV.none (r:=.int .i64 1) h (lG.refl w))
   cases hg:gB o.refs n
   ·rw [hg] at h2 hf;have hf2:iK y=false:=hf;unfold iK at hf2;simp only [decide_eq_false_iff_not] at hf2;clear hf hr hr0 hk hg hs hc1
    by_cases hy1:y < -2147483648
    ·clear hf2;go_in;go_wp2_with fail;refine h1.mono ?_;rintro e _ ⟨rfl,rfl⟩;go_wp2_with fail;refine h2.mono ?_;rintro e _ ⟨rfl,rfl⟩;go_wp2_with fail;exact hR.out _ _ HD.out
    have hy2:2147483647<y:=by omega
    clear hf2;go_in;go_wp2_with fail;refine h1.mono ?_;rintro e _ ⟨rfl,rfl⟩;go_wp2_with fail;refine h2.mono ?_;rintro e _ ⟨rfl,rfl⟩;go_wp2_with fail;exact hR.out _ _ HD.out
   rw [hg] at h2 hf;have hf2:(decide (y=0) || (M.ob y).isSome)=false:=hf;simp only [Bool.or_eq_false_iff,decide_eq_false_iff_not] at hf2;have hyn:M.ob y=none:=by
    cases e:M.ob y with
    | none=>rfl
    | some o'=>rw [e] at hf2;cases hf2.2
   have hl:=h.xM hy hyn;have hy0:(y != 0)=true:=by simpa using hf2.1
   clear hf hf2 hr hr0 hk hg hs hyn;go_in;go_wp2_with fail;refine h1.mono ?_;rintro e _ ⟨rfl,rfl⟩;go_wp2_with fail;refine h2.mono ?_;rintro e _ ⟨rfl,rfl⟩;go_wp2_with fail;exact hR.out _ _ HD.out
  have hr:M.set x n y=(0,⟨(M.P.setCell (o.addr n) y).2,dX M.ob x (some (o.put n y))⟩):=by rw [hr0,hf];rfl
  rw [hr] at hR;have HCT:Hid (Calls prog 196 #[.pointer (some ⟨X.blk x,0,none⟩),.int .i64 n] w.drew (aK w.drew (.int .i64 (o.addr n)))):=yT w.drew (h.drew.th x o ho) hk ho hn;have hse:(M.P.setCell (o.addr n) y).1=0:=by
   unfold Pl.setCell;rw [if_pos (hk.kH ho hn).2]
  have HST:Hid (Calls prog 199 #[.pointer (some ⟨X.pp,0,none⟩),.int .i64 (o.addr n),.int .i64 y] w.drew fun e w'=>e=.returned (.int .i64 0)/\dM w' X.pp X.pb (M.P.setCell (o.addr n) y).2/\Only [X.pb] w.drew w'):=by
   have:=iG w.drew X.pp X.pb M.P h.drew.pool (o.addr n) y;rw [hse] at this;exact this
  have aIR:Hid (∀ w',dM w' X.pp X.pb (M.P.setCell (o.addr n) y).2->Only [X.pb] w.drew w'->uV w L hb (.int .i64 0) ⟨(M.P.setCell (o.addr n) y).2,dX M.ob x (some (o.put n y))⟩ (.returned (.int .i64 0)) w'):=fun w' hp hg=>by
   have hg':Only [X.pb] w w':=((Only.refl [X.pb] w).drew).trans hg (fun x hx=>.inl hx);refine ⟨rfl,L,X,h.fO hg' hp (fun k=>?_) (fun k o' hk'=>?_),fun k hk=>.inl hk,hg'.toP (fun x hx=>.inl (by simp at hx;rw [hx,h.Lpb];simp))⟩
   ·by_cases e:k=x
    ·rw [e,aZ,ho];rfl
    rw [bD _ _ e]
   rcases aV hk' with ⟨rfl,rfl⟩|⟨_,e2⟩
   ·exact ⟨o,ho,rfl,rfl,rfl,by simp [Th.put],rfl⟩
   exact ⟨o',e2,Th.Shape.refl _⟩
  have d0:w.drew.cell? ⟨hb,0,none⟩=some (.pointer (some ⟨X.pp,0,none⟩)):=h.cells.1;obtain ⟨ad,had⟩:∃ z,z=o.addr n:=⟨_,rfl⟩;rw [<-had] at HCT HST aIR hR;obtain ⟨P2,hP2⟩:∃ z,z=(M.P.setCell ad y).2:=⟨_,rfl⟩;rw [<-hP2] at HST aIR hR
  cases hg:gB o.refs n
  ·rw [hg] at h2 hf;have hf2:iK y=true:=hf;unfold iK at hf2;simp only [decide_eq_true_eq] at hf2;obtain ⟨hy1,hy2⟩:=hf2;clear hf hr hr0 hk hg hs hc1 had hP2 hse ho hn;go_in;go_wp2_with fail;refine h1.mono ?_;rintro e _ ⟨rfl,rfl⟩;go_wp2_with fail;refine h2.mono ?_;rintro e _ ⟨rfl,rfl⟩;go_wp2_with fail;go_region_held3 (fun w'=>w'.cell? ⟨hb,0,none⟩=some (.pointer (some ⟨X.pp,0,none⟩)))
    (first|(exact d0)|(exact ho3.cell d0 (by simp;rintro rfl;have:=h.Lm;rw [h.Lpb] at this;cases this)))
    (first
     | (go_at_call 196;refine HCT.out.mono ?_;rintro e _ ⟨rfl,rfl⟩)
     | (go_at_call 199;refine HST.out.mono ?_;rintro e w3 ⟨rfl,hp3,ho3⟩))
   have HE:=aA (aIR.out w3 hp3 ho3);clear hp3 ho3 aIR;go_wp2_with fail;exact hR.out _ _ HE.out
  rw [hg] at h2 hf;have hf2:(decide (y=0) || (M.ob y).isSome)=true:=hf;simp only [Bool.or_eq_true,decide_eq_true_eq] at hf2
  by_cases hy0:y=0
  ·subst hy0;clear hf hf2 hr hr0 hk hg hs hc1 had hP2 hse ho hn;go_in;go_wp2_with fail;refine h1.mono ?_;rintro e _ ⟨rfl,rfl⟩;go_wp2_with fail;refine h2.mono ?_;rintro e _ ⟨rfl,rfl⟩;go_wp2_with fail;go_region_held3 (fun w'=>w'.cell? ⟨hb,0,none⟩=some (.pointer (some ⟨X.pp,0,none⟩)))
    (first|(exact d0)|(exact ho3.cell d0 (by simp;rintro rfl;have:=h.Lm;rw [h.Lpb] at this;cases this)))
    (first
     | (go_at_call 196;refine HCT.out.mono ?_;rintro e _ ⟨rfl,rfl⟩)
     | (go_at_call 199;refine HST.out.mono ?_;rintro e w3 ⟨rfl,hp3,ho3⟩))
   have HE:=aA (aIR.out w3 hp3 ho3);clear hp3 ho3 aIR;go_wp2_with fail;exact hR.out _ _ HE.out
  have hys:∃ o',M.ob y=some o':=by
   cases e:M.ob y with
   | none=>rw [e] at hf2;simp [hy0] at hf2
   | some o'=>exact ⟨o',rfl⟩
  obtain ⟨o',hyo⟩:=hys;have hl:=h.xK hy hyo;have hyb:(y != 0)=true:=by simpa using hy0
  clear hf hf2 hr hr0 hk hg hs had hP2 hse ho hn hy0 hyo;go_in;go_wp2_with fail;refine h1.mono ?_;rintro e _ ⟨rfl,rfl⟩;go_wp2_with fail;refine h2.mono ?_;rintro e _ ⟨rfl,rfl⟩;go_wp2_with fail;go_region_held3 (fun w'=>w'.cell? ⟨hb,0,none⟩=some (.pointer (some ⟨X.pp,0,none⟩)))
   (first|(exact d0)|(exact ho3.cell d0 (by simp;rintro rfl;have:=h.Lm;rw [h.Lpb] at this;cases this)))
   (first
    | (go_at_call 196;refine HCT.out.mono ?_;rintro e _ ⟨rfl,rfl⟩)
    | (go_at_call 199;refine HST.out.mono ?_;rintro e w3 ⟨rfl,hp3,ho3⟩))
  have HE:=aA (aIR.out w3 hp3 ho3);clear hp3 ho3 aIR;go_wp2_with fail;exact hR.out _ _ HE.out
end
end Go.Proofs.YthflghdaejbdkaaGreat
