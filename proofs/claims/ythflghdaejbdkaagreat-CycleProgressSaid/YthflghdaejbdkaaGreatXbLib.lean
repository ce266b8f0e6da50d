/- Lemmas of this claim. -/
import Derived.WalkKit
import Derived.WalkSpells
import Derived.WalkLawsBesides
import Derived.BigQuiet
import Derived.Deep.QuietTactic
import Derived.RegionTactic
import Derived.BigRegion
import Derived.StillTailTactics
import Derived.Deep.LoopGhost
import Derived.Deep.RegionHeld3
import Derived.Deep.RegionWith
import Derived.Deep.DeepFit
import Derived.Lib.Hide
import Derived.Laws.Rows
import Derived.Laws.IdiomCopy
import Derived.Lib.SliceRun
namespace Go.Proofs.YthflghdaejbdkaaGreat
open Go.RowKit
theorem _root_.Go.RowKit.Hid.o {p:Prop} (h:Hid p):p:=h
theorem aA {p:Prop} (h:p):Hid p:=Lib.hid h
theorem aF {P:Program} {f:FuncId} {y:Array Value} {w:World} {Q:Ending->World->Prop}
  (h:∀ R:Ending->World->Prop,Hid (∀ e w',Q e w'->R e w')->Calls P f y w R):Calls P f y w Q:=h Q (fun _ _ x=>x)
def Same (w:World) (v:Value) (e:Ending) (w':World):Prop:=e=.returned v/\∃ n,w'=w.drewN n
def aO (w:World) (v:Value) (e:Ending) (w':World):Prop:=e=.returned v/\w=w'
theorem aU {P:Program} {f:FuncId} {y:Array Value} {w:World} {n:Nat} {v:Value}
  (h:Calls P f y (w.drewN n) (aO (w.drewN n) v)):Calls P f y (w.drewN n) fun e z=>e=.returned v/\∃ m,z=w.drewN m:=Calls.quiet_of_same (h.mono fun _ _ ⟨a,b⟩=>⟨a,b.symm⟩)
theorem kT {z:Func} {t u v x:Tmp} (h:z.results=#[.tmp t,.tmp u,.tmp v,.tmp x]) (y:Array Value) (P:Program) (w:World) :
  (results z y).run P w=.ok (.tuple #[y.getD t undef,y.getD u undef,y.getD v undef,y.getD x undef]) w:=by
 simp [results,h]
theorem iZ (w:World):∃ n,w=w.drewN n:=⟨0,rfl⟩
def aGv (w:World) (b i:Nat):Nat:=match w.cell? ⟨b,i,none⟩ with|some (.int _ k)=>k.toNat|_=>0
theorem mF {w:World} {b i:Nat} {k:IntKind} {n:Nat} (h:w.cell? ⟨b,i,none⟩=some (.int k n)):aGv w b i=n:=by simp [aGv,h]
def Row (w:World) (b:Nat) (T:Nat) (cs:List Value):Prop:=w.heap[b]?=some (.cells cs.toArray T (0,0))
theorem Row.cell {w:World} {b T:Nat} {cs:List Value} (h:Row w b T cs) (i:Nat) {v:Value} (y:cs[i]?=some v):w.cell? ⟨b,i,none⟩=some v:=by
 simp only [World.cell?,Row] at*;rw [h];simpa using y
theorem Row.free {w:World} {b T:Nat} {cs:List Value} (h:Row w b T cs) (i:Nat):w.frozen? ⟨b,i,none⟩=false:=by
 simp only [World.frozen?,Row] at*;rw [h];simp
theorem Row.lt {w:World} {b T:Nat} {cs:List Value} (h:Row w b T cs):b<w.heap.size:=by
 unfold Row at h;exact (Array.getElem?_eq_some_iff.1 h).1
theorem Row.drew {w:World} {b T:Nat} {cs:List Value} (h:Row w b T cs):Row w.drew b T cs:=h
theorem Row.set {w:World} {b T:Nat} {cs:List Value} (h:Row w b T cs) (i:Nat) (v:Value):Row (w.setCell ⟨b,i,none⟩ v) b T (cs.set i v):=by
 have y:=h.lt;unfold Row at*;have z:w.heap[b]=.cells cs.toArray T (0,0):=by simpa [Array.getElem?_eq_getElem y] using h
 show (w.heap.modify b _)[b]?=_;rw [Array.getElem?_eq_getElem (by simpa using y),Array.getElem_modify_self,z];simp
theorem Row.other {w:World} {b T:Nat} {cs:List Value} (h:Row w b T cs) {a:Addr} (y:a.block≠b) (v:Value):Row (w.setCell a v) b T cs:=by
 unfold Row at*;rw [Below.heap_setCell _ _ _ _ (fun e=>y e.symm)];exact h
theorem Row.alloc {w:World} {b T:Nat} {cs:List Value} (h:Row w b T cs) (o:Obj):Row (w.alloc o) b T cs:=by
 have:=h.lt;unfold Row at*;rw [Below.heap_alloc _ _ _ this];exact h
theorem Row.new (w:World) (T:Nat) (cs:List Value):Row (w.alloc (.cells cs.toArray T)) w.heap.size T cs:=by
 unfold Row;exact heap_alloc_new w _
theorem Row.inj {w:World} {b T d:Nat} {cs y:List Value} (h:Row w b T cs) (z:Row w b d y):cs=y:=by
 unfold Row at*;rw [h] at z;simp at z;exact z.1
structure Only (F:List Nat) (w w':World):Prop where
 os:w'.os=w.os
 tape:w'.tape=w.tape
 output:w'.output=w.output
 size:w.heap.size<=w'.heap.size
 block:∀ k,k<w.heap.size->k∉F->w'.heap[k]?=w.heap[k]?
theorem Only.refl (F:List Nat) (w:World):Only F w w:=⟨rfl,rfl,rfl,Nat.le_refl _,fun _ _ _=>rfl⟩
theorem Only.drew {F:List Nat} {a w:World} (h:Only F a w):Only F a w.drew:=⟨h.os,h.tape,h.output,h.size,h.block⟩
theorem Only.drewN {F:List Nat} {a w:World} (h:Only F a w) (n:Nat):Only F a (w.drewN n):=⟨h.os,h.tape,h.output,h.size,h.block⟩
theorem Only.set {F:List Nat} {a w:World} (h:Only F a w) {p:Addr} (y:p.block∈F\/a.heap.size<=p.block) (v:Value):Only F a (w.setCell p v):=
 ⟨h.os,h.tape,h.output,by simpa [World.setCell] using h.size,fun k d z=>by
  rw [Below.heap_setCell _ _ _ _ (by rintro rfl;rcases y with y|y;exact z y;omega)];exact h.block k d z⟩
theorem Only.alloc {F:List Nat} {a w:World} (h:Only F a w) (o:Obj):Only F a (w.alloc o):=
 ⟨h.os,h.tape,h.output,by have:=h.size;simp;omega,fun k y z=>by rw [Below.heap_alloc _ _ _ (Nat.lt_of_lt_of_le y h.size)];exact h.block k y z⟩
theorem Only.trans {F G:List Nat} {a b c:World} (h:Only F a b) (k:Only G b c) (y:∀ x∈G,x∈F\/a.heap.size<=x):Only F a c:=
 ⟨k.os.trans h.os,k.tape.trans h.tape,k.output.trans h.output,Nat.le_trans h.size k.size,fun i d z=>by
  rw [k.block i (Nat.lt_of_lt_of_le d h.size) (fun e=>by rcases y i e with h1|h1;exact z h1;omega)];exact h.block i d z⟩
theorem Only.mono {F G:List Nat} {a b:World} (h:Only F a b) (y:∀ x∈F,x∈G\/a.heap.size<=x):Only G a b:=
 (Only.refl G a).trans h y
theorem Only.row {F:List Nat} {w w':World} (h:Only F w w') {b T:Nat} {cs:List Value} (y:Row w b T cs) (hb:b∉F):Row w' b T cs:=by
 have:=y.lt;unfold Row at*;rw [h.block b this hb];exact y
theorem Only.below {F:List Nat} {w w':World} {B:Nat} (h:Only F w w') (z:B<=w.heap.size) (y:∀ x∈F,B<=x):Below B w w':=
 ⟨h.os,h.tape,h.output,h.size,fun k d=>h.block k (by omega) (fun hk'=>by have:=y k hk';omega)⟩
theorem Only.grown {F:List Nat} {a w w':World} {z:Option Nat} (h:Only F a w) (y:w.grownBy w' z) (hr:∀ k,z=some k->k∈F\/a.heap.size<=k):Only F a w':=
 ⟨y.os.trans h.os,y.tape.trans h.tape,y.output.trans h.output,Nat.le_trans h.size y.size,fun k hk d=>by
  rw [y.block k (Nat.lt_of_lt_of_le hk h.size) (fun e=>by rcases hr k e.symm with h1|h1;exact d h1;omega)];exact h.block k hk d⟩
theorem Row.grown {w w':World} {y:Option Nat} {b T:Nat} {cs:List Value} (h:Row w b T cs) (z:w.grownBy w' y) (hb:some b≠y):Row w' b T cs:=by
 have:=h.lt;unfold Row at*;rw [z.block b this hb];exact h
theorem xY {P:Program} (w:World) (base:Nat) (t ty e:TypeId) (i:TypeInfo) (z:Value) (d h7:Nat) (ht:P.underlying t=some (.slice e)) (hi:P.info? e=some i) (hz:i.zero=some z)
  (x1:i.size=d) (x4:i.bytes=h7) (y0:z.cells.size=d) (x9:0<d)
  (v:Value) (n:Nat) (xs:List Value) (h8:w.ownsRow base e d v n xs)
  (a:Addr) (m c:Nat) (y:List Value) (hl:y.length=m*d) (h0:∀ j u,y[j]?=some u->w.cell? (a.add j)=some u) (h1:∀ u∈y,u.oneCell'=true)
  (x6:n+m<=maxLen) (h5:(n+m)*h7<=140737488355328) (x2:base<=w.heap.size) :
  ∃ v' w',(Builtin.append_ #[t,t] ty #[v,.slice (some a) m c]).run P w=.ok v' w'/\w'.ownsRow base e d v' (n+m) (xs ++ y)/\w.grownBy w' v.ownBlock/\
   (v'=.slice none 0 0↔v=.slice none 0 0/\m=0)/\(v'.ownBlock=v.ownBlock\/v'.ownBlock=some w.heap.size):=by
 obtain ⟨v',w',hr,h2,h3,h4⟩:=run_append_own (P:=P) w base t ty e i z d h7 ht hi hz x1 x4 y0 x9 v n xs h8 a m c y hl h0 h1 x6 h5 x2;refine ⟨v',w',hr,h2,h3,h4,?_⟩;have hm:maxLen=9223372036854775807:=rfl;subst x1;subst x4
 rcases h8.2 with ⟨rfl,rfl⟩|⟨g,cap,x3,rfl,y2,hg,y4,y3,x7,y1⟩
 ·by_cases x8:m=0
  ·left;rw [h4.2 ⟨rfl,x8⟩]
  right;have h6:=run_append_nil (P:=P) w t ty e i z ht hi hz a m c y hl h0 (by omega) (by omega) (by have hb:=h5;simp only [Nat.zero_add] at hb;omega);rw [hr] at h6
  cases h6
  rfl
 by_cases h9:n+m<=cap
 ·left;have x5:n*i.size+y.length<=x3.size:=by rw [hl,x7,<-Nat.add_mul];exact Nat.mul_le_mul_right _ h9
  have h6:=run_append_room (P:=P) w t ty e i ht hi g n cap x3 hg a m c y hl h0 h1 h9 x5;rw [hr] at h6
  cases h6
  rfl
 right;have holds:∀ j u,xs[j]?=some u->w.cell? ((⟨g,0,none⟩:Addr).add j)=some u:=h8.cells (g:=g) rfl;have h6:=run_append_grow (P:=P) w t ty e i z ht hi hz ⟨g,0,none⟩ n cap xs h8.1 holds a m c y hl h0 (by omega) (by omega) (growslice_fits (by omega) h5);rw [hr] at h6
 cases h6
 rfl
theorem bV {P:Program} {w:World} {ops:Array Oper} {h7:List Oper} {o:Oper} {a:Act} {Q:Exit->Act->World->Prop} (x5:o.guard=none) (s x:Operand) (t:TypeId)
  (ho:o.op=.call { callee:=.builtin .append,args:=#[s,x],argTypes:=#[t,t] })
  (base:Nat) (e:TypeId) (i:TypeInfo) (z:Value) (y h0:Nat) (ht:P.underlying t=some (.slice e)) (hi:P.info? e=some i) (hz:i.zero=some z)
  (x1:i.size=y) (x4:i.bytes=h0) (x7:z.cells.size=y) (x6:0<y)
  (v:Value) (n:Nat) (xs:List Value) (hs:a.eval s=v) (x2:w.ownsRow base e y v n xs)
  (ad:Addr) (m c:Nat) (d:List Value) (hx:a.eval x=.slice (some ad) m c) (hl:d.length=m*y) (h9:∀ j u,d[j]?=some u->w.cell? (ad.add j)=some u) (h1:∀ u∈d,u.oneCell'=true)
  (x3:n+m<=maxLen) (h6:(n+m)*h0<=140737488355328) (h8:base<=w.heap.size)
  (h:∀ v' w',w'.ownsRow base e y v' (n+m) (xs ++ d)->w.grownBy w' v.ownBlock->(v'=.slice none 0 0↔v=.slice none 0 0/\m=0)->(v'.ownBlock=v.ownBlock\/v'.ownBlock=some w.heap.size)->wpList P ops Q h7 (a.put o.dst v') w'):wpList P ops Q (o :: h7) a w:=by
 refine wpList_plain x5 fun K hK=>?_;obtain ⟨v',w',hr,h2,h3,h4,h5⟩:=xY (P:=P) w base t o.type e i z y h0 ht hi hz x1 x4 x7 x6 v n xs x2 ad m c d hl h9 h1 x3 h6 h8;unfold Oper.wp;simp only [execOp,ho,resolve,invoke,builtin,Sem.run_bind,Sem.run_pure,Result.andThen_ok,List.map_toArray,List.map_cons,List.map_nil,hs,hx,hr];exact hK _ _ (h v' w' h2 h3 h4 h5)
theorem dN (b o n:Nat):(⟨b,o,none⟩:Addr).add n=⟨b,o+n,none⟩:=by unfold Addr.add;split<;>simp_all
section
variable {P:Program}
theorem nN (w:World) (b o:Nat) (y:TypeId) (cs:List Value) (d:TypeDesc)
  (hu:P.underlying y=some d) (hd:(match d with|.struct _|.array _ _=>true|_=>false)=true) (hi:(P.info? y).map (·.size)=some cs.length)
  (hc:∀ j v,cs[j]?=some v->w.cell? ⟨b,o+j,none⟩=some v):(loadVar y ⟨b,o,none⟩).run P w=.ok (.agg cs.toArray) w:=by
 have hl:(loadCells ⟨b,o,none⟩ cs.length).run P w=.ok cs.toArray w:=
  run_loadCells_list (P:=P) w ⟨b,o,none⟩ cs (fun j v hv=>by rw [dN];exact hc j v hv)
 cases e:P.info? y with
 | none=>simp [e] at hi
 | some i=>
  have hs:i.size=cs.length:=by simpa [e] using hi
  have z:(isAgg y).run P w=.ok true w:=by
   unfold isAgg;rw [Sem.run_bind,run_underlying hu w]
   cases d<;>simp_all
  simp [loadVar,Sem.run_bind,z,sizeOf,typeInfo,e,hs,hl]
theorem aEm {o:Oper} {a:Act} {w:World} {K:Act->World->Prop} {Q:Exit->Act->World->Prop} (z:TypeId) (x:Operand) (ho:o.op=.load z x)
  (b y:Nat) (hx:a.eval x=.pointer (some ⟨b,y,none⟩)) (cs:List Value) (d:TypeDesc)
  (hu:P.underlying z=some d) (hd:(match d with|.struct _|.array _ _=>true|_=>false)=true) (hi:(P.info? z).map (·.size)=some cs.length)
  (e:∀ j v,cs[j]?=some v->w.cell? ⟨b,y+j,none⟩=some v)
  (h:K (a.put o.dst (.agg cs.toArray)) w):o.wp P a w K Q:=by
 unfold Oper.wp execOp;simp only [ho,hx,Instr.loadAt,Instr.sureAddr,Sem.run_bind,Sem.run_pure,Result.andThen_ok,nN w b y z cs d hu hd hi e];exact h
theorem fB {ops:Array Oper} {y:List Oper} {o:Oper} {a:Act} {w:World} {Q:Exit->Act->World->Prop} (h0:o.guard=none) (e:TypeId) (x:Operand) (ho:o.op=.load e x)
  (b z:Nat) (hx:a.eval x=.pointer (some ⟨b,z,none⟩)) (cs:List Value) (d:TypeDesc)
  (hu:P.underlying e=some d) (hd:(match d with|.struct _|.array _ _=>true|_=>false)=true) (hi:(P.info? e).map (·.size)=some cs.length)
  (hc:∀ j v,cs[j]?=some v->w.cell? ⟨b,z+j,none⟩=some v)
  (h:wpList P ops Q y (a.put o.dst (.agg cs.toArray)) w):wpList P ops Q (o :: y) a w:=
 wpList_plain h0 fun _ hK=>aEm e x ho b z hx cs d hu hd hi hc (hK _ _ h)
theorem aBG (w:World) (t e:TypeId) (n:Nat) (cs:Array Value) (i:Nat) (v:Value) (ht:P.underlying t=some (.array n e)) (d:TypeDesc) (he:P.underlying e=some d)
  (hd:(match d with|.struct _|.array _ _=>true|_=>false)=false) (hs:(P.info? e).map (·.size)=some 1) (hi:i<n) (hv:cs[i]?=some v) :
  (Instr.index t (.agg cs) (.int .i64 i)).run P w=.ok v w:=by
 have y:(isAgg e).run P w=.ok false w:=by
  unfold isAgg;rw [Sem.run_bind,run_underlying he w]
  cases d<;>simp_all
 cases z:P.info? e with
 | none=>simp [z] at hs
 | some j=>
  have hj:j.size=1:=by simpa [z] using hs
  have h0:(0:Int)<=(i:Int)/\(i:Int)<(n:Int):=by omega
  simp [Instr.index,run_underlying ht,asIntOf,part,y,sizeOf,typeInfo,z,hj,hi,hv]
end
theorem jF {P:Program} {w:World} {ops:Array Oper} {d:List Oper} {o:Oper} {a:Act} {Q:Exit->Act->World->Prop} (h0:o.guard=none) (s:Operand) (t e:TypeId)
  (ho:o.op=.call { callee:=.builtin .clear,args:=#[s],argTypes:=#[t] }) (z:Value) (ht:P.underlying t=some (.slice e)) (hv:∀ w,(zeroValue e).run P w=.ok z w) (hz:z.cells=#[z]) (h1:z.oneCell'=true)
  (b y n c:Nat) (hs:a.eval s=.slice (some ⟨b,y,none⟩) n c) (hn:0<n)
  (hc:∀ j,j<n->(w.cell? ⟨b,y+j,none⟩).isSome=true) (hf:∀ j,j<n->w.frozen? ⟨b,y+j,none⟩=false)
  (h:wpList P ops Q d (a.put o.dst (.tuple #[])) (w.setCells b y (List.replicate n z))):wpList P ops Q (o :: d) a w:=by
 refine wpList_plain h0 fun K hK=>?_;have hr:=Lib.run_clear_slice (P:=P) w t e o.type z ht hv hz h1 b y n c hn hc hf;unfold Oper.wp;simp only [execOp,ho,resolve,invoke,builtin,Sem.run_bind,Sem.run_pure,Result.andThen_ok,List.map_toArray,List.map_cons,List.map_nil,hs,hr];exact hK _ _ h
theorem nP {α:Type} (n:Nat) (x:α):List.replicate n x=(List.range n).map fun _=>x:=by
 apply List.ext_getElem<;>simp
theorem tK {P:Program} {w:World} {ops:Array Oper} {h0:List Oper} {o:Oper} {a:Act} {Q:Exit->Act->World->Prop} (h3:o.guard=none) (d s:Operand) (dT sT e:TypeId)
  (ho:o.op=.call { callee:=.builtin .copy,args:=#[d,s],argTypes:=#[dT,sT] }) (ht:P.underlying dT=some (.slice e)) (h4:(P.info? e).map (·.size)=some 1)
  (b y n c:Nat) (hd:a.eval d=.slice (some ⟨b,y,none⟩) n c) (b2 z c2:Nat) (hs:a.eval s=.slice (some ⟨b2,z,none⟩) n c2) (cs:List Value) (hl:cs.length=n)
  (h2:∀ j v,cs[j]?=some v->w.cell? ⟨b2,z+j,none⟩=some v) (hc:∀ j,j<n->(w.cell? ⟨b,y+j,none⟩).isSome=true) (hf:∀ j,j<n->w.frozen? ⟨b,y+j,none⟩=false) (h1:∀ v∈cs,v.oneCell'=true)
  (h:wpList P ops Q h0 (a.put o.dst (goInt n)) (w.setCells b y cs)):wpList P ops Q (o :: h0) a w:=by
 refine wpList_plain h3 fun K hK=>?_;have hr:=run_copy_cells (P:=P) w dT sT o.type e b y n c ⟨b2,z,none⟩ n c2 cs ht h4 (by rw [hl];exact (Nat.min_self n).symm) (fun j v hv=>by rw [dN];exact h2 j v hv) (fun j hj=>hc j (by omega)) (fun j hj=>hf j (by omega)) h1;unfold Oper.wp;simp only [execOp,ho,resolve,invoke,builtin,Sem.run_bind,Sem.run_pure,Result.andThen_ok,List.map_toArray,List.map_cons,List.map_nil,hs,hd,hr,hl];exact hK _ _ h
def lX (w w':World):Prop:=∃ n,w'=w.drewN n
theorem lX.refl (w:World):lX w w:=⟨0,rfl⟩
theorem lX.of (w:World) (n:Nat):lX w (w.drewN n):=⟨n,rfl⟩
theorem lX.more {w w':World} (h:lX w w') (n:Nat):lX w (w'.drewN n):=by obtain ⟨m,rfl⟩:=h;exact ⟨m+n,by simp [World.drewN,Nat.add_assoc]⟩
theorem lX.trans {a b c:World} (h:lX a b) (k:lX b c):lX a c:=by obtain ⟨m,rfl⟩:=k;exact h.more m
theorem lX.only {w w':World} (h:lX w w') (F:List Nat):Only F w w':=by obtain ⟨n,rfl⟩:=h;exact (Only.refl _ _).drewN n
theorem lX.ex {w w':World} (h:lX w w'):∃ n,w'=w.drewN n:=h
theorem xM {P:Program} {f:FuncId} {y:Array Value} {w:World} {v:Value} (h:Calls P f y w (aO w v)):Calls P f y w fun e z=>e=.returned v/\z=w:=h.mono fun _ _ ⟨a,b⟩=>⟨a,b.symm⟩
theorem Only.setCells {F:List Nat} {a w:World} (h:Only F a w) {b:Nat} (z:b∈F\/a.heap.size<=b):∀ (y:List Value) (o:Nat),Only F a (w.setCells b o y):=by
 intro y
 induction y generalizing w with
 | nil=>intro o;exact h
 | cons v r d=>intro o;exact d (h.set (p:=⟨b,o,none⟩) z v) (o+1)
theorem Row.setCells {w:World} {b T:Nat} {cs:List Value} (h:Row w b T cs):∀ (y:List Value) (o:Nat),∃ cs',Row (w.setCells b o y) b T cs':=by
 intro y
 induction y generalizing w cs with
 | nil=>intro o;exact ⟨cs,h⟩
 | cons v r z=>intro o;exact z (h.set o v) (o+1)
theorem Only.cell {F:List Nat} {w w':World} (h:Only F w w') {a:Addr} {v:Value} (y:w.cell? a=some v) (d:a.block∉F):w'.cell? a=some v:=by
 have z:=World.block_lt_of_cell? w _ y;simp only [World.cell?] at y ⊢;rw [h.block a.block z d];exact y
theorem aBK {α:Type} {f:Nat->α} {n j:Nat} {v:α} (h:((List.range n).map f)[j]?=some v):j<n/\v=f j:=by
 have y:j<n:=by have:=(List.getElem?_eq_some_iff.1 h).1;simpa using this
 rw [List.getElem?_map,List.getElem?_range y] at h;simp at h;exact ⟨y,h.symm⟩
structure Made (w w':World) (g:Nat) (news:List Value):Prop where
 only:Only [] w w'
 row:∃ T cs,Row w' g T cs
 cell:∀ j v,news[j]?=some v->w'.cell? ⟨g,j,none⟩=some v
 ge:w.heap.size<=g
 lt:g<w'.heap.size
theorem aAv {P:Program} (w:World) (t ty e:TypeId) (i:TypeInfo) (z:Value) (ht:P.underlying t=some (.slice e)) (hi:P.info? e=some i) (hz:i.zero=some z) (h3:i.size=1)
  (ad:Addr) (m c:Nat) (y:List Value) (hl:y.length=m) (d:∀ j v,y[j]?=some v->w.cell? (ad.add j)=some v) (h0:0<m) (h2:m<=1099511627776) (h1:i.bytes<=16) :
  ∃ cap w',(Builtin.append_ #[t,t] ty #[.slice none 0 0,.slice (some ad) m c]).run P w=.ok (.slice (some ⟨w.heap.size,0,none⟩) m cap) w'/\Made w w' w.heap.size y:=by
 refine ⟨_,_,run_append_nil (P:=P) w t ty e i z ht hi hz ad m c y (by rw [hl,h3,Nat.mul_one]) d h0 (by omega) (by
  have:=Nat.mul_le_mul h2 h1;omega),?_⟩
 have hn:((w.drew.alloc (.cells (y.toArray ++ Builtin.zeroCells z.cells (grownCap w m 0 e - m)) e))).heap[w.heap.size]?=some (.cells (y.toArray ++ Builtin.zeroCells z.cells (grownCap w m 0 e - m)) e):=heap_alloc_new w.drew _;refine ⟨((Only.refl _ _).drewN 1).alloc _,⟨e,y ++ (Builtin.zeroCells z.cells (grownCap w m 0 e - m)).toList,?_⟩,fun j v hv=>?_,Nat.le_refl _,?_⟩
 ·unfold Row;rw [hn];simp
 ·simp only [World.cell?];rw [hn];have hj:j<y.length:=(List.getElem?_eq_some_iff.1 hv).1;simp only [Array.getElem?_append,List.size_toArray,hj,if_true,List.getElem?_toArray];exact hv
 exact (Array.getElem?_eq_some_iff.1 hn).1
theorem jW {P:Program} {ops:Array Oper} {o:Oper} {a:Act} {w:World} {K:Act->World->Prop} {Q:Exit->Act->World->Prop} {E:Prop}
  (hg:o.guard=none) (s x:Operand) (t:TypeId) (h4:o.op=Op.call { callee:=Callee.builtin Builtin.append,args:=#[s,x],argTypes:=#[t,t] })
  (e:TypeId) (i:TypeInfo) (z:Value) (ht:P.underlying t=some (.slice e)) (hi:P.info? e=some i) (hz:i.zero=some z) (h5:i.size=1) (h2:i.bytes<=16)
  (hs:a.eval s=.slice none 0 0) (ad:Addr) (m c:Nat) (y:List Value) (hx:a.eval x=.slice (some ad) m c) (hl:y.length=m) (d:∀ j v,y[j]?=some v->w.cell? (ad.add j)=some v) (h0:0<m) (h3:m<=1099511627776)
  (hK:∀ g cap w',Made w w' g y->K (a.put o.dst (.slice (some ⟨g,0,none⟩) m cap)) w') :
  if Region.wanted o (yielded ops a.tmps)=true then Oper.wp P o a w K Q else E:=by
 have hw:Region.wanted o (yielded ops a.tmps)=true:=by simp [Region.wanted,hg]
 rw [if_pos hw];obtain ⟨cap,w',h1,hm⟩:=aAv (P:=P) w t o.type e i z ht hi hz h5 ad m c y hl d h0 h3 h2;unfold Oper.wp;simp [execOp,h4,resolve,invoke,builtin,hs,hx,h1,Result.andThen];exact hK _ _ _ hm
