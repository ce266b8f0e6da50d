/- The queue of the program and that of the reference as plain data. -/
namespace Go.Proofs.YtkjocehdbpekjaaGreat

/-- Element i of a list of numbers. -/
def gI (l : List Int) (i : Nat) : Int := l[i]?.getD 0

/-- What a queue holds. -/
structure QSt where
  cells : List Int
  head : Nat
  tail : Nat
  put : Nat
  take : Nat
  word : Int
  taken : Int

def QSt.n (s : QSt) : Nat := s.cells.length
/-- What always holds of it. -/
structure QSt.ok (s : QSt) : Prop where
  n2 : 2 ≤ s.cells.length
  n9 : s.cells.length ≤ 9
  hd : s.head < s.cells.length
  tl : s.tail < s.cells.length
  pt : s.put ≤ 3
  tk : s.take ≤ 3

theorem cast_ne0 {n : Nat} (h : 2 ≤ n) : ((n : Int) == 0) = false := by
  rw [beq_eq_false_iff_ne]; omega

def isWordB (n : Int) : Bool := decide (-2147483648 ≤ n ∧ n ≤ 2147483647)

/-- The place behind i. -/
def QSt.nx (s : QSt) (i : Nat) : Nat := (i + 1) % s.cells.length
theorem QSt.nx_cast (s : QSt) (i : Nat) : ((s.nx i : Nat) : Int) = ((i : Int) + 1) % (s.cells.length : Int) := by unfold QSt.nx; simp
/-- BeginPut of the model. -/
def QSt.beginPut (s : QSt) (n : Int) : Int × QSt :=
  if isWordB n then (if s.put = 0 then (0, { s with put := 1, word := n }) else (13, s)) else (1, s)
def QSt.beginTake (s : QSt) : Int × QSt :=
  if s.take = 0 then (0, { s with take := 1 }) else (13, s)

/-- StepPut of the model: over, put, the queue behind. -/
def QSt.stepPut (s : QSt) : Bool × Bool × Int × QSt :=
  if s.put = 0 then (false, false, 13, s)
  else if s.put = 1 then (if s.nx s.tail = s.head then (true, false, 0, { s with put := 0 }) else (false, false, 0, { s with put := 2 }))
  else if s.put = 2 then (false, false, 0, { s with cells := s.cells.set s.tail s.word, put := 3 })
  else (true, true, 0, { s with tail := s.nx s.tail, put := 0 })

/-- StepTake of the model: over, taken, the word, the queue behind. -/
def QSt.stepTake (s : QSt) : Bool × Bool × Int × Int × QSt :=
  if s.take = 0 then (false, false, 0, 13, s)
  else if s.take = 1 then (if s.head = s.tail then (true, false, 0, 0, { s with take := 0 }) else (false, false, 0, 0, { s with take := 2 }))
  else if s.take = 2 then (false, false, 0, 0, { s with taken := gI s.cells s.head, take := 3 })
  else (true, true, s.taken, 0, { s with head := s.nx s.head, take := 0 })

theorem QSt.nx_lt (s : QSt) (i : Nat) (h : s.ok) : s.nx i < s.cells.length := by have := h.n2; unfold QSt.nx; exact Nat.mod_lt _ (by omega)
theorem QSt.ok.stepPut {s : QSt} (h : s.ok) : s.stepPut.2.2.2.ok ∧ s.stepPut.2.2.2.cells.length = s.cells.length := by
  unfold QSt.stepPut
  have h1 := s.nx_lt s.tail h
  obtain ⟨a, b, c, d, e, f⟩ := h
  (repeat' split) <;> refine ⟨⟨?_, ?_, ?_, ?_, ?_, ?_⟩, ?_⟩ <;> simp <;> omega
theorem QSt.ok.stepTake {s : QSt} (h : s.ok) : s.stepTake.2.2.2.2.ok ∧ s.stepTake.2.2.2.2.cells.length = s.cells.length := by
  unfold QSt.stepTake
  have h1 := s.nx_lt s.head h
  obtain ⟨a, b, c, d, e, f⟩ := h
  (repeat' split) <;> refine ⟨⟨?_, ?_, ?_, ?_, ?_, ?_⟩, ?_⟩ <;> simp <;> omega
theorem QSt.ok.beginPut {s : QSt} (h : s.ok) (n : Int) : (s.beginPut n).2.ok ∧ (s.beginPut n).2.cells.length = s.cells.length := by
  unfold QSt.beginPut
  obtain ⟨a, b, c, d, e, f⟩ := h
  (repeat' split) <;> refine ⟨⟨?_, ?_, ?_, ?_, ?_, ?_⟩, ?_⟩ <;> simp <;> omega
theorem QSt.ok.beginTake {s : QSt} (h : s.ok) : s.beginTake.2.ok ∧ s.beginTake.2.cells.length = s.cells.length := by
  unfold QSt.beginTake
  obtain ⟨a, b, c, d, e, f⟩ := h
  (repeat' split) <;> refine ⟨⟨?_, ?_, ?_, ?_, ?_, ?_⟩, ?_⟩ <;> simp <;> omega

/-- The steps of a put that is under way, until it is over. -/
def QSt.loopPut : Nat → QSt → Bool × QSt
  | 0, s => (false, s)
  | k + 1, s => if s.stepPut.1 then (s.stepPut.2.1, s.stepPut.2.2.2) else QSt.loopPut k s.stepPut.2.2.2
def QSt.doPut (s : QSt) (n : Int) : Bool × Int × QSt :=
  if (s.beginPut n).1 = 0 then ((QSt.loopPut 3 (s.beginPut n).2).1, 0, (QSt.loopPut 3 (s.beginPut n).2).2) else (false, (s.beginPut n).1, (s.beginPut n).2)

theorem QSt.stepPut_moves {s : QSt} (h : s.ok) (h1 : 1 ≤ s.put) (hd : s.stepPut.1 = false) : s.put + 1 = s.stepPut.2.2.2.put ∧ s.stepPut.2.2.2.put ≤ 3 := by
  have := h.pt
  unfold QSt.stepPut at *
  by_cases a0 : s.put = 0
  · omega
  · by_cases a1 : s.put = 1
    · by_cases a2 : s.nx s.tail = s.head <;> simp_all
    · by_cases a2 : s.put = 2 <;> simp_all

/-- The steps of a take that is under way, until it is over. -/
def QSt.loopTake : Nat → QSt → Bool × Int × QSt
  | 0, s => (false, 0, s)
  | k + 1, s => if s.stepTake.1 then (s.stepTake.2.1, s.stepTake.2.2.1, s.stepTake.2.2.2.2) else QSt.loopTake k s.stepTake.2.2.2.2
/-- Take: the word, whether there was one, the error. -/
def QSt.doTake (s : QSt) : Int × Bool × Int × QSt :=
  if s.beginTake.1 = 0 then ((QSt.loopTake 3 s.beginTake.2).2.1, (QSt.loopTake 3 s.beginTake.2).1, 0, (QSt.loopTake 3 s.beginTake.2).2.2) else (0, false, s.beginTake.1, s.beginTake.2)

theorem QSt.stepTake_moves {s : QSt} (h : s.ok) (h1 : 1 ≤ s.take) (hd : s.stepTake.1 = false) : s.take + 1 = s.stepTake.2.2.2.2.take ∧ s.stepTake.2.2.2.2.take ≤ 3 := by
  have := h.tk
  unfold QSt.stepTake at *
  by_cases a0 : s.take = 0
  · omega
  · by_cases a1 : s.take = 1
    · by_cases a2 : s.head = s.tail <;> simp_all
    · by_cases a2 : s.take = 2 <;> simp_all

/-- How many words there are. -/
def QSt.len (s : QSt) : Nat := if s.head ≤ s.tail then s.tail - s.head else s.tail + s.cells.length - s.head
/-- The place k places behind the head. -/
def QSt.pl (s : QSt) (k : Nat) : Nat := (s.head + k) % s.cells.length
def QSt.items (s : QSt) : List Int := (List.range s.len).map fun k => gI s.cells (s.pl k)
def QSt.itemsTo (s : QSt) (k : Nat) : List Int := (List.range k).map fun k => gI s.cells (s.pl k)
theorem QSt.itemsTo_succ (s : QSt) (k : Nat) : s.itemsTo (k + 1) = s.itemsTo k ++ [gI s.cells (s.pl k)] := by simp [QSt.itemsTo, List.range_succ]
theorem QSt.itemsTo_len (s : QSt) (k : Nat) : (s.itemsTo k).length = k := by simp [QSt.itemsTo]
theorem QSt.pl_lt (s : QSt) (h : s.ok) (k : Nat) : s.pl k < s.cells.length := by have := h.n2; exact Nat.mod_lt _ (by omega)
theorem QSt.pl_0 (s : QSt) (h : s.ok) : s.pl 0 = s.head := by have := h.hd; exact Nat.mod_eq_of_lt (by omega)
theorem QSt.pl_succ (s : QSt) (k : Nat) : s.nx (s.pl k) = s.pl (k + 1) := by unfold QSt.nx QSt.pl; rw [Nat.mod_add_mod, Nat.add_assoc]
theorem QSt.pl_tail (s : QSt) (h : s.ok) (k : Nat) (hk : k ≤ s.len) : s.pl k = s.tail ↔ k = s.len := by
  have h1 := h.hd
  have h2 := h.tl
  have h3 := h.n2
  unfold QSt.len at *
  unfold QSt.pl
  rcases Nat.lt_or_ge (s.head + k) s.cells.length with h4 | h4
  · rw [Nat.mod_eq_of_lt h4]; split at hk <;> rename_i h5 <;> simp only [h5, if_true, if_false] <;> omega
  · rw [Nat.mod_eq_sub_mod h4, Nat.mod_eq_of_lt (by split at hk <;> omega)]; split at hk <;> rename_i h5 <;> simp only [h5, if_true, if_false] <;> omega
theorem QSt.len_lt (s : QSt) (h : s.ok) : s.len < s.cells.length := by
  have h1 := h.hd
  have h2 := h.tl
  unfold QSt.len
  split <;> omega

/-- An empty queue. -/
def QSt.new (n : Nat) : QSt := { cells := List.replicate (n + 1) 0, head := 0, tail := 0, put := 0, take := 0, word := 0, taken := 0 }
theorem QSt.new_ok (n : Nat) (h1 : 1 ≤ n) (h2 : n ≤ 8) : (QSt.new n).ok := by
  constructor <;> simp [QSt.new] <;> omega
/-- What a queue of the reference holds. -/
structure RSt where
  size : Nat
  over : Nat
  taken : Nat
  words : List Int
  putS : Nat
  takeS : Nat

structure RSt.ok (s : RSt) : Prop where
  n1 : 1 ≤ s.size
  n8 : s.size ≤ 8
  tk : s.taken ≤ s.over
  ov : s.words.length = (if s.putS = 0 then s.over else s.over + 1)
  ps : s.putS ≤ 3
  ts : s.takeS ≤ 3
  ne : s.takeS = 0 ∨ s.takeS = 1 ∨ s.taken < s.over

/-- BeginPut of the model. -/
def RSt.beginPut (s : RSt) (n : Int) : Int × RSt :=
  if isWordB n then (if s.putS = 0 then (0, { s with putS := 1, words := s.words ++ [n] }) else (13, s)) else (1, s)
def RSt.beginTake (s : RSt) : Int × RSt := if s.takeS = 0 then (0, { s with takeS := 1 }) else (13, s)

/-- StepPut of the model. -/
def RSt.stepPut (s : RSt) : Bool × Bool × Int × RSt :=
  if s.putS = 0 then (false, false, 13, s)
  else if s.putS = 1 then (if s.over - s.taken = s.size then (true, false, 0, { s with words := s.words.take s.over, putS := 0 }) else (false, false, 0, { s with putS := 2 }))
  else if s.putS = 2 then (false, false, 0, { s with putS := 3 })
  else (true, true, 0, { s with over := s.over + 1, putS := 0 })

/-- StepTake of the model. -/
def RSt.stepTake (s : RSt) : Bool × Bool × Int × Int × RSt :=
  if s.takeS = 0 then (false, false, 0, 13, s)
  else if s.takeS = 1 then (if s.over = s.taken then (true, false, 0, 0, { s with takeS := 0 }) else (false, false, 0, 0, { s with takeS := 2 }))
  else if s.takeS = 2 then (false, false, 0, 0, { s with takeS := 3 })
  else (true, true, gI s.words s.taken, 0, { s with taken := s.taken + 1, takeS := 0 })

theorem RSt.ok.stepPut {s : RSt} (h : s.ok) : s.stepPut.2.2.2.ok ∧ s.stepPut.2.2.2.size = s.size ∧ s.stepPut.2.2.2.words.length ≤ s.words.length := by
  unfold RSt.stepPut
  obtain ⟨a, b, c, d, e, f, g⟩ := h
  by_cases h0 : s.putS = 0
  · simp [h0]; refine ⟨a, b, c, d, e, f, g⟩
  · rw [if_neg h0] at d
    by_cases h1 : s.putS = 1
    · by_cases h2 : s.over - s.taken = s.size
      · simp [h1, h2]
        refine ⟨⟨a, b, c, ?_, ?_, f, g⟩, ?_⟩ <;> first | omega | (simp <;> omega) | (simp_all <;> omega)
      · simp [h1, h2]
        refine ⟨a, b, c, ?_, ?_, f, g⟩ <;> first | omega | (simp <;> omega) | (simp_all <;> omega)
    · by_cases h2 : s.putS = 2
      · simp [h2]
        refine ⟨a, b, c, ?_, ?_, f, g⟩ <;> first | omega | (simp <;> omega) | (simp_all <;> omega)
      · simp [h0, h1, h2]
        refine ⟨a, b, ?_, ?_, ?_, f, ?_⟩ <;> first | omega | (simp <;> omega) | (simp_all <;> omega)
theorem RSt.ok.stepTake {s : RSt} (h : s.ok) : s.stepTake.2.2.2.2.ok ∧ s.stepTake.2.2.2.2.size = s.size ∧ s.stepTake.2.2.2.2.words = s.words := by
  unfold RSt.stepTake
  obtain ⟨a, b, c, d, e, f, g⟩ := h
  by_cases h0 : s.takeS = 0
  · simp [h0]; refine ⟨a, b, c, d, e, f, g⟩
  · by_cases h1 : s.takeS = 1
    · by_cases h2 : s.over = s.taken
      · simp [h1, h2]
        refine ⟨a, b, ?_, ?_, e, ?_, ?_⟩ <;> first | omega | (simp <;> omega) | (simp_all <;> omega)
      · simp [h1, h2]
        refine ⟨a, b, c, ?_, e, ?_, ?_⟩ <;> first | omega | (simp <;> omega) | (simp_all <;> omega)
    · by_cases h2 : s.takeS = 2
      · simp [h2]
        refine ⟨a, b, c, ?_, e, ?_, ?_⟩ <;> first | omega | (simp <;> omega) | (simp_all <;> omega)
      · simp [h0, h1, h2]
        refine ⟨a, b, ?_, ?_, e, ?_, ?_⟩ <;> first | omega | (simp <;> omega) | (simp_all <;> omega)
theorem RSt.ok.beginPut {s : RSt} (h : s.ok) (n : Int) : (s.beginPut n).2.ok ∧ (s.beginPut n).2.size = s.size ∧ (s.beginPut n).2.words.length ≤ s.words.length + 1 := by
  unfold RSt.beginPut
  obtain ⟨a, b, c, d, e, f, g⟩ := h
  by_cases h0 : isWordB n <;> by_cases h1 : s.putS = 0 <;> simp [h0, h1]
  · refine ⟨a, b, c, ?_, ?_, f, g⟩ <;> first | omega | (simp_all <;> omega)
  all_goals exact ⟨a, b, c, d, e, f, g⟩
theorem RSt.ok.beginTake {s : RSt} (h : s.ok) : s.beginTake.2.ok ∧ s.beginTake.2.size = s.size ∧ s.beginTake.2.words = s.words := by
  unfold RSt.beginTake
  obtain ⟨a, b, c, d, e, f, g⟩ := h
  by_cases h1 : s.takeS = 0 <;> simp [h1]
  · refine ⟨a, b, c, d, e, ?_, ?_⟩ <;> simp
  · exact ⟨a, b, c, d, e, f, g⟩

/-- The words that are put and not taken. -/
def RSt.items (s : RSt) : List Int := (s.words.take s.over).drop s.taken


theorem QSt.stepPut_0 {s : QSt} (h : s.put = 0) : s.stepPut = (false, false, 13, s) := by unfold QSt.stepPut; rw [if_pos h]
theorem QSt.stepPut_1a {s : QSt} (h : s.put = 1) (hf : s.nx s.tail = s.head) : s.stepPut = (true, false, 0, { s with put := 0 }) := by unfold QSt.stepPut; rw [if_neg (by omega), if_pos h, if_pos hf]
theorem QSt.stepPut_1b {s : QSt} (h : s.put = 1) (hf : ¬ s.nx s.tail = s.head) : s.stepPut = (false, false, 0, { s with put := 2 }) := by unfold QSt.stepPut; rw [if_neg (by omega), if_pos h, if_neg hf]
theorem QSt.stepPut_2 {s : QSt} (h : s.put = 2) : s.stepPut = (false, false, 0, { s with cells := s.cells.set s.tail s.word, put := 3 }) := by unfold QSt.stepPut; rw [if_neg (by omega), if_neg (by omega), if_pos h]
theorem QSt.stepPut_3 {s : QSt} (h : s.put = 3) : s.stepPut = (true, true, 0, { s with tail := s.nx s.tail, put := 0 }) := by unfold QSt.stepPut; rw [if_neg (by omega), if_neg (by omega), if_neg (by omega)]
theorem QSt.stepTake_0 {s : QSt} (h : s.take = 0) : s.stepTake = (false, false, 0, 13, s) := by unfold QSt.stepTake; rw [if_pos h]
theorem QSt.stepTake_1a {s : QSt} (h : s.take = 1) (hf : s.head = s.tail) : s.stepTake = (true, false, 0, 0, { s with take := 0 }) := by unfold QSt.stepTake; rw [if_neg (by omega), if_pos h, if_pos hf]
theorem QSt.stepTake_1b {s : QSt} (h : s.take = 1) (hf : ¬ s.head = s.tail) : s.stepTake = (false, false, 0, 0, { s with take := 2 }) := by unfold QSt.stepTake; rw [if_neg (by omega), if_pos h, if_neg hf]
theorem QSt.stepTake_2 {s : QSt} (h : s.take = 2) : s.stepTake = (false, false, 0, 0, { s with taken := gI s.cells s.head, take := 3 }) := by unfold QSt.stepTake; rw [if_neg (by omega), if_neg (by omega), if_pos h]
theorem QSt.stepTake_3 {s : QSt} (h : s.take = 3) : s.stepTake = (true, true, s.taken, 0, { s with head := s.nx s.head, take := 0 }) := by unfold QSt.stepTake; rw [if_neg (by omega), if_neg (by omega), if_neg (by omega)]
theorem RSt.stepPut_0 {s : RSt} (h : s.putS = 0) : s.stepPut = (false, false, 13, s) := by unfold RSt.stepPut; rw [if_pos h]
theorem RSt.stepPut_1a {s : RSt} (h : s.putS = 1) (hf : s.over - s.taken = s.size) : s.stepPut = (true, false, 0, { s with words := s.words.take s.over, putS := 0 }) := by unfold RSt.stepPut; rw [if_neg (by omega), if_pos h, if_pos hf]
theorem RSt.stepPut_1b {s : RSt} (h : s.putS = 1) (hf : ¬ s.over - s.taken = s.size) : s.stepPut = (false, false, 0, { s with putS := 2 }) := by unfold RSt.stepPut; rw [if_neg (by omega), if_pos h, if_neg hf]
theorem RSt.stepPut_2 {s : RSt} (h : s.putS = 2) : s.stepPut = (false, false, 0, { s with putS := 3 }) := by unfold RSt.stepPut; rw [if_neg (by omega), if_neg (by omega), if_pos h]
theorem RSt.stepPut_3 {s : RSt} (h : s.putS = 3) : s.stepPut = (true, true, 0, { s with over := s.over + 1, putS := 0 }) := by unfold RSt.stepPut; rw [if_neg (by omega), if_neg (by omega), if_neg (by omega)]
theorem RSt.stepTake_0 {s : RSt} (h : s.takeS = 0) : s.stepTake = (false, false, 0, 13, s) := by unfold RSt.stepTake; rw [if_pos h]
theorem RSt.stepTake_1a {s : RSt} (h : s.takeS = 1) (hf : s.over = s.taken) : s.stepTake = (true, false, 0, 0, { s with takeS := 0 }) := by unfold RSt.stepTake; rw [if_neg (by omega), if_pos h, if_pos hf]
theorem RSt.stepTake_1b {s : RSt} (h : s.takeS = 1) (hf : ¬ s.over = s.taken) : s.stepTake = (false, false, 0, 0, { s with takeS := 2 }) := by unfold RSt.stepTake; rw [if_neg (by omega), if_pos h, if_neg hf]
theorem RSt.stepTake_2 {s : RSt} (h : s.takeS = 2) : s.stepTake = (false, false, 0, 0, { s with takeS := 3 }) := by unfold RSt.stepTake; rw [if_neg (by omega), if_neg (by omega), if_pos h]
theorem RSt.stepTake_3 {s : RSt} (h : s.takeS = 3) : s.stepTake = (true, true, gI s.words s.taken, 0, { s with taken := s.taken + 1, takeS := 0 }) := by unfold RSt.stepTake; rw [if_neg (by omega), if_neg (by omega), if_neg (by omega)]
theorem QSt.beginPut_a {s : QSt} {n : Int} (hw : isWordB n = true) (h : s.put = 0) : s.beginPut n = (0, { s with put := 1, word := n }) := by unfold QSt.beginPut; rw [if_pos hw, if_pos h]
theorem QSt.beginPut_b {s : QSt} {n : Int} (hw : isWordB n = true) (h : ¬ s.put = 0) : s.beginPut n = (13, s) := by unfold QSt.beginPut; rw [if_pos hw, if_neg h]
theorem QSt.beginPut_c {s : QSt} {n : Int} (hw : ¬ isWordB n = true) : s.beginPut n = (1, s) := by unfold QSt.beginPut; rw [if_neg hw]
theorem RSt.beginPut_a {s : RSt} {n : Int} (hw : isWordB n = true) (h : s.putS = 0) : s.beginPut n = (0, { s with putS := 1, words := s.words ++ [n] }) := by unfold RSt.beginPut; rw [if_pos hw, if_pos h]
theorem RSt.beginPut_b {s : RSt} {n : Int} (hw : isWordB n = true) (h : ¬ s.putS = 0) : s.beginPut n = (13, s) := by unfold RSt.beginPut; rw [if_pos hw, if_neg h]
theorem RSt.beginPut_c {s : RSt} {n : Int} (hw : ¬ isWordB n = true) : s.beginPut n = (1, s) := by unfold RSt.beginPut; rw [if_neg hw]
theorem QSt.beginTake_a {s : QSt} (h : s.take = 0) : s.beginTake = (0, { s with take := 1 }) := by unfold QSt.beginTake; rw [if_pos h]
theorem QSt.beginTake_b {s : QSt} (h : ¬ s.take = 0) : s.beginTake = (13, s) := by unfold QSt.beginTake; rw [if_neg h]
theorem RSt.beginTake_a {s : RSt} (h : s.takeS = 0) : s.beginTake = (0, { s with takeS := 1 }) := by unfold RSt.beginTake; rw [if_pos h]
theorem RSt.beginTake_b {s : RSt} (h : ¬ s.takeS = 0) : s.beginTake = (13, s) := by unfold RSt.beginTake; rw [if_neg h]
end Go.Proofs.YtkjocehdbpekjaaGreat
