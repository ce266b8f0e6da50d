/- Lemmas of this claim. -/
import Derived.Test.YtkacgbigeobncaaGreatTaCdS
import Derived.Test.YtkacgbigeobncaaGreatTaSModel
import Derived.Lib.SlicesCompact
import Derived.Test.YtkacgbigeobncaaGreatTaLib
import Derived.Test.YtkacgbigeobncaaGreatTaSNear
import Derived.OwnWalk
import Derived.Deep.WholeRow
import Derived.Deep.AppendLies
import Derived.Deep.RegionLaw
namespace Go.Proofs.YtkacgbigeobncaaGreat
set_option linter.unusedVariables false
set_option linter.unusedSimpArgs false
structure Ty where
  kind : Int
  cls : Int
  deriving DecidableEq, Inhabited
structure Cls where
  name : ByteArray
  super : Int
  fields : List Ty
  meths : List Int
structure Mth where
  name : ByteArray
  cls : Int
  params : List Ty
  locals : List Ty
  result : Ty
  code : List Ins
structure Mod where
  classes : List Cls
  statics : List Ty
  methods : List Mth
  sel : Int
instance : Inhabited Cls := ⟨⟨⟨#[]⟩, 0, [], []⟩⟩
instance : Inhabited Mth := ⟨⟨⟨#[]⟩, 0, [], [], default, []⟩⟩
def Mod.cl (M : Mod) (k : Nat) : Cls := M.classes.getD k default
def Mod.me (M : Mod) (k : Nat) : Mth := M.methods.getD k default
def Mod.isClass (M : Mod) (n : Int) : Bool := decide (0 ≤ n) && decide (n < M.classes.length)
def Mod.isType (M : Mod) (t : Ty) (least : Int) : Bool :=
  if t.kind = 2 ∨ t.kind = 4 then M.isClass t.cls else if t.kind = 0 ∨ t.kind = 1 ∨ t.kind = 3 then decide (least ≤ t.kind) && decide (t.cls = 0) else false
def Mod.areTypes (M : Mod) (l : List Ty) (most : Int) : Bool := decide ((l.length : Int) ≤ most) && !(l.any fun t => !M.isType t 1)
def Mod.upN (M : Mod) : Nat → Int → Int → Int
  | 0, a, b => a
  | n + 1, a, b => if b < a then M.upN n (M.cl a.toNat).super b else a
def Mod.above (M : Mod) (a b : Int) : Bool := M.upN (a + 1).toNat a b == b
def Mod.entry (M : Mod) (class_ : Nat) (s : Nat) (n : Nat) : Bool :=
  let own := (M.me n).cls
  decide (0 ≤ own) && decide (own ≤ class_) && M.above class_ own && decide (gI (M.cl own.toNat).meths s = n)
def Mod.rowOk (M : Mod) (k : Nat) (s : Nat) : Bool :=
  let x := M.cl k
  let n := gI x.meths s
  !(decide (n < -1) || decide ((M.methods.length : Int) ≤ n)) && !(decide (0 ≤ n) && !M.entry k s n.toNat) && !(decide (0 ≤ x.super) && decide (n < 0) && decide (0 ≤ gI (M.cl x.super.toNat).meths s))
def Mod.headOk (M : Mod) (k : Nat) : Bool :=
  let x := M.cl k
  !(decide (x.super < -1) || decide ((k : Int) ≤ x.super)) && M.areTypes x.fields 7 && decide ((x.meths.length : Int) = M.sel)
def Mod.tailOk (M : Mod) (k : Nat) : Bool :=
  let x := M.cl k
  decide (x.super < 0) || (let up := (M.cl x.super.toNat).fields; decide (up.length ≤ x.fields.length) && decide (up = x.fields.take up.length))
def Mod.classOk (M : Mod) (k : Nat) : Bool := M.headOk k && ((List.range (M.cl k).meths.length).all fun s => M.rowOk k s) && M.tailOk k
def Mod.tgN (M : Mod) (s k : Nat) : List Int := ((M.classes.take k).map fun c => gI c.meths s).filter fun n => decide (0 ≤ n)
def Mod.targets (M : Mod) (s : Nat) : List Int := Lib.compact ((M.tgN s M.classes.length).mergeSort fun x y => decide (x ≤ y))
def Mod.operand (M : Mod) (k : Nat) (i : Ins) : Bool :=
  if i.op = 14 ∨ i.op = 24 then M.isClass i.a else if i.op = 16 then M.isClass i.b else if i.op = 12 then decide (i.a = 3) || M.isClass i.b
  else if i.op = 22 ∨ i.op = 23 then decide (i.a < M.statics.length) else if i.op = 25 then decide (i.a < k) && decide ((M.me i.a.toNat).cls < 0)
  else if i.op = 26 then decide (i.a < M.sel) && !((M.targets i.a.toNat).any fun t => decide ((k : Int) ≤ t)) else true
def Mod.methodOk (M : Mod) (k : Nat) : Bool :=
  let x := M.me k
  let room := 10 - (x.params.length : Int) - (if 0 ≤ x.cls then 1 else 0)
  decide (-1 ≤ x.cls) && decide (x.cls < M.classes.length) && M.areTypes x.params 4 && M.areTypes x.locals room && M.isType x.result 0 && decide (codeE x.code = 0) && !(x.code.any fun i => !M.operand k i)
def Mod.unlike (M : Mod) (a b : Nat) : Bool := decide ((M.me a).result ≠ (M.me b).result) || !decide ((M.me a).params = (M.me b).params)
def Mod.alike (M : Mod) (s : Nat) : Bool := let l := M.targets s; !(l.any fun t => M.unlike t.toNat (gI l 0).toNat)
def Mod.valid (M : Mod) : Bool :=
  decide (M.classes.length ≤ 10) && decide (M.methods.length ≤ 16) && decide (0 ≤ M.sel) && decide (M.sel ≤ 16) && M.areTypes M.statics 10 &&
  ((List.range M.methods.length).all fun k => decide (-1 ≤ (M.me k).cls) && decide ((M.me k).cls < M.classes.length)) &&
  ((List.range M.classes.length).all fun k => M.classOk k) && ((List.range M.methods.length).all fun k => M.methodOk k) && ((List.range M.sel.toNat).all fun s => M.alike s)
def Mod.SupOk (M : Mod) (k : Nat) : Prop := ∀ j, j < k → -1 ≤ (M.cl j).super ∧ (M.cl j).super < j
theorem Mod.upN_fuel {M : Mod} {k : Nat} (h : M.SupOk k) {b : Int} (hb : -1 ≤ b) : ∀ (n m : Nat) (a : Int), a < k → (a + 1).toNat ≤ n → (a + 1).toNat ≤ m → M.upN n a b = M.upN m a b := by
  intro n
  induction n with
  | zero =>
    intro m a h1 h2 h3
    cases m with
    | zero => rfl
    | succ m => unfold Mod.upN; rw [if_neg (by omega)]
  | succ n ih =>
    intro m a h1 h2 h3
    cases m with
    | zero => unfold Mod.upN; rw [if_neg (by omega)]
    | succ m =>
      unfold Mod.upN
      by_cases hlt : b < a
      · rw [if_pos hlt, if_pos hlt]
        have := h a.toNat (by omega)
        exact ih m _ (by omega) (by omega) (by omega)
      · rw [if_neg hlt, if_neg hlt]
theorem Mod.up_step {M : Mod} {k : Nat} (h : M.SupOk k) {a b : Int} (hb : -1 ≤ b) (ha : a < k) (hlt : b < a) : M.upN (a + 1).toNat a b = M.upN ((M.cl a.toNat).super + 1).toNat (M.cl a.toNat).super b := by
  obtain ⟨n, hn⟩ : ∃ n, (a + 1).toNat = n + 1 := ⟨a.toNat, by omega⟩
  have hs := h a.toNat (by omega)
  rw [hn]
  show (if b < a then M.upN n (M.cl a.toNat).super b else a) = _
  rw [if_pos hlt]
  exact Mod.upN_fuel h hb _ _ _ (by omega) (by omega) (Nat.le_refl _)
theorem Mod.up_end {M : Mod} {a b : Int} (hlt : ¬ b < a) (n : Nat) : M.upN n a b = a := by
  cases n with
  | zero => rfl
  | succ n => unfold Mod.upN; rw [if_neg hlt]
end Go.Proofs.YtkacgbigeobncaaGreat
namespace Go.Proofs.YtkacgbigeobncaaGreat
open Go.RowKit Go.Maps
set_option maxHeartbeats 3200000
set_option maxRecDepth 100000
set_option linter.unusedVariables false
set_option linter.unusedSimpArgs false
def Ret (w : World) (v : Value) (e : Ending) (w' : World) : Prop := e = .returned v ∧ Only [] w w'
theorem Exact.ret {w : World} {v : Value} {e : Ending} {w' : World} (h : Exact w v e w') : Ret w v e w' := ⟨h.1, h.2 ▸ Only.refl _ _⟩
def Ins.val (i : Ins) : Value := .agg #[.int .i64 i.op, .int .i64 i.a, .int .i64 i.b]
structure SpAt (T : Array Value) : Prop where
  sz : T.size = 144
  one : T.all (·.oneCell') = true
  row : ∀ k, k < 36 → ∃ s : ByteArray, T[k * 4]? = some (.string s) ∧ T[k * 4 + 1]? = some (.int .i64 (spec k).1) ∧ T[k * 4 + 2]? = some (.int .i64 (spec k).2.1) ∧ T[k * 4 + 3]? = some (.int .i64 (spec k).2.2)
theorem store_all (w : World) (L : List Value) (h : L.length = 144) (h1 : L.toArray.all (·.oneCell') = true) : (storeCells ⟨w.heap.size, 0, none⟩ L 0).run Tryz.prog (w.alloc (.cells Tryz.zeroCells266 266)) = .ok () (w.alloc (.cells L.toArray 266)) := by
  have := run_storeCells_new (P := Tryz.prog) w 266 Tryz.zeroCells266 L.toArray (by rw [show L.toArray.size = 144 from by simp [h]]; kernel_rfl) (by rw [show L.toArray.size = 144 from by simp [h]]; rfl) h1
  simpa using this
theorem SpAt.store {T : Array Value} (h : SpAt T) (W : World) : (storeCells ⟨W.heap.size, 0, none⟩ T.toList 0).run Tryz.prog (W.alloc (.cells Tryz.zeroCells266 266)) = .ok () (W.alloc (.cells T 266)) :=
  run_storeCells_new (P := Tryz.prog) W 266 Tryz.zeroCells266 T (by rw [h.sz]; kernel_rfl) (by rw [h.sz]; rfl) h.one
theorem table_any (w : World) : Calls Tryz.prog 174 #[] w fun e w' => Only [] w w' ∧ ∃ T : Array Value, e = .returned (.agg T) ∧ SpAt T := by
  refine calls_abs fun R hR => ?_
  go_enter Tryz.func174, Tryz.ntmps174
  go_wp2_with fail
  rw [store_all w]
  rotate_left
  · decide +kernel
  · decide +kernel
  go_wp2_with fail
  refine bodyPost_ret (results_cell_row rfl _ _ w.heap.size 266 _ (0, 0) _ rfl (heap_alloc_new _ _) Tryz.underlying266 rfl (by kernel_rfl)) rfl ?_
  refine hR.out _ _ ⟨(Only.refl _ _).alloc _, _, rfl, ?_⟩
  refine ⟨by decide +kernel, by decide +kernel, fun k hk => ?_⟩
  match k, hk with
  | 0, _ => exact ⟨_, rfl, rfl, rfl, rfl⟩
  | 1, _ => exact ⟨_, rfl, rfl, rfl, rfl⟩
  | 2, _ => exact ⟨_, rfl, rfl, rfl, rfl⟩
  | 3, _ => exact ⟨_, rfl, rfl, rfl, rfl⟩
  | 4, _ => exact ⟨_, rfl, rfl, rfl, rfl⟩
  | 5, _ => exact ⟨_, rfl, rfl, rfl, rfl⟩
  | 6, _ => exact ⟨_, rfl, rfl, rfl, rfl⟩
  | 7, _ => exact ⟨_, rfl, rfl, rfl, rfl⟩
  | 8, _ => exact ⟨_, rfl, rfl, rfl, rfl⟩
  | 9, _ => exact ⟨_, rfl, rfl, rfl, rfl⟩
  | 10, _ => exact ⟨_, rfl, rfl, rfl, rfl⟩
  | 11, _ => exact ⟨_, rfl, rfl, rfl, rfl⟩
  | 12, _ => exact ⟨_, rfl, rfl, rfl, rfl⟩
  | 13, _ => exact ⟨_, rfl, rfl, rfl, rfl⟩
  | 14, _ => exact ⟨_, rfl, rfl, rfl, rfl⟩
  | 15, _ => exact ⟨_, rfl, rfl, rfl, rfl⟩
  | 16, _ => exact ⟨_, rfl, rfl, rfl, rfl⟩
  | 17, _ => exact ⟨_, rfl, rfl, rfl, rfl⟩
  | 18, _ => exact ⟨_, rfl, rfl, rfl, rfl⟩
  | 19, _ => exact ⟨_, rfl, rfl, rfl, rfl⟩
  | 20, _ => exact ⟨_, rfl, rfl, rfl, rfl⟩
  | 21, _ => exact ⟨_, rfl, rfl, rfl, rfl⟩
  | 22, _ => exact ⟨_, rfl, rfl, rfl, rfl⟩
  | 23, _ => exact ⟨_, rfl, rfl, rfl, rfl⟩
  | 24, _ => exact ⟨_, rfl, rfl, rfl, rfl⟩
  | 25, _ => exact ⟨_, rfl, rfl, rfl, rfl⟩
  | 26, _ => exact ⟨_, rfl, rfl, rfl, rfl⟩
  | 27, _ => exact ⟨_, rfl, rfl, rfl, rfl⟩
  | 28, _ => exact ⟨_, rfl, rfl, rfl, rfl⟩
  | 29, _ => exact ⟨_, rfl, rfl, rfl, rfl⟩
  | 30, _ => exact ⟨_, rfl, rfl, rfl, rfl⟩
  | 31, _ => exact ⟨_, rfl, rfl, rfl, rfl⟩
  | 32, _ => exact ⟨_, rfl, rfl, rfl, rfl⟩
  | 33, _ => exact ⟨_, rfl, rfl, rfl, rfl⟩
  | 34, _ => exact ⟨_, rfl, rfl, rfl, rfl⟩
  | 35, _ => exact ⟨_, rfl, rfl, rfl, rfl⟩
  | k + 36, h => omega
end Go.Proofs.YtkacgbigeobncaaGreat
