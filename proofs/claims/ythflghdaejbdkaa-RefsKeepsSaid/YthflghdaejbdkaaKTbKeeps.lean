/- Lemmas of this claim. -/
import Derived.Test.YthflghdaejbdkaaKTbB
import Derived.Test.YthflghdaejbdkaaKTbPl
import Derived.Test.YthflghdaejbdkaaKTbPF
import Derived.Test.YthflghdaejbdkaaKTbS
import Derived.Test.YthflghdaejbdkaaKTbCyc
import Derived.Deep.CutRange
namespace Go.Proofs.Ythflghdaejbdkaa
open Go.RowKit Go.Maps
set_option maxHeartbeats 12800000
set_option maxRecDepth 100000
set_option linter.unusedVariables false
theorem and1023 (x : Int) : 0 ≤ bits .and .i64 x 1023 ∧ bits .and .i64 x 1023 ≤ 1023 := by
  show 0 ≤ IntKind.i64.wrap ((BitVec.ofInt 64 x &&& BitVec.ofInt 64 1023).toNat : Int) ∧ IntKind.i64.wrap ((BitVec.ofInt 64 x &&& BitVec.ofInt 64 1023).toNat : Int) ≤ 1023
  have h : (BitVec.ofInt 64 x &&& BitVec.ofInt 64 1023).toNat ≤ 1023 := by
    rw [BitVec.toNat_and]
    exact Nat.and_le_right
  rw [IntKind.wrap_i64]
  omega
def EnA (v : Value) (l : List En) : Asn :=
  ⟨fun w S => Ents w 47 0 v l ∧ ∀ k, S k ↔ v.ownBlock = some k, fun h ho hd => ⟨h.1.onlyP ho (fun k hk x => hd k x ((h.2 k).2 hk)), h.2⟩, fun h hk => (h.1.own _ ((h.2 _).1 hk)).2⟩
section
variable {w0 w w' : World} {l : List Asn}
theorem Fam.turnInts (h : Fam w0 w l) (i : Nat) {v v' : Value} {s s' : List Int} (hi : l[i]? = some (IntsA v s)) {base : Nat} (hn : Ints w' base v' s') (ho : Only v.ownBlock.toList w w') (hb : v'.ownBlock = v.ownBlock ∨ v'.ownBlock = some w.heap.size) : Fam w0 w' (l.set i (IntsA v' s')) :=
  h.turn i hi fun S hS => ⟨fun k => v'.ownBlock = some k, ⟨hn.base (Nat.zero_le _), fun k => Iff.rfl⟩, fun k hk => by
    rcases hb with hb | hb
    · exact .inl ((hS.2 k).2 (by rw [← hb]; exact hk))
    · rw [hb] at hk; exact .inr (by rw [Option.some.inj hk]; exact Nat.le_refl _), ho.toP fun k hk => .inl ((hS.2 k).2 (by simpa using hk))⟩
theorem Fam.turnEnts (h : Fam w0 w l) (i : Nat) {v v' : Value} {s s' : List En} (hi : l[i]? = some (EnA v s)) (hn : Ents w' 47 0 v' s') (ho : Only v.ownBlock.toList w w') (hb : v'.ownBlock = v.ownBlock ∨ v'.ownBlock = some w.heap.size) : Fam w0 w' (l.set i (EnA v' s')) :=
  h.turn i hi fun S hS => ⟨fun k => v'.ownBlock = some k, ⟨hn, fun k => Iff.rfl⟩, fun k hk => by
    rcases hb with hb | hb
    · exact .inl ((hS.2 k).2 (by rw [← hb]; exact hk))
    · rw [hb] at hk; exact .inr (by rw [Option.some.inj hk]; exact Nat.le_refl _), ho.toP fun k hk => .inl ((hS.2 k).2 (by simpa using hk))⟩
theorem Fam.ents {v : Value} {s : List En} (h : Fam w0 w l) (i : Nat) (hi : l[i]? = some (EnA v s)) : Ents w 47 0 v s := by
  obtain ⟨S, h1, _⟩ := h.get i hi
  exact h1.1
theorem Fam.addEn (h : Fam w0 w l) : Fam w0 w (l ++ [EnA (.slice none 0 0) []]) :=
  h.add ⟨Only.refl [] w, fun k => (Value.slice none 0 0).ownBlock = some k, ⟨Ents.nil _ _ _, fun k => Iff.rfl⟩, fun k hk => by simp [Value.ownBlock] at hk⟩
end
theorem eAt_appL {l : List En} {e : En} {j : Nat} (h : j < l.length) : eAt (l ++ [e]) j = eAt l j := by
  unfold eAt
  rw [List.getElem?_append_left h]
theorem eAt_last (l : List En) (e : En) : eAt (l ++ [e]) l.length = e := by
  unfold eAt
  rw [List.getElem?_append_right (Nat.le_refl _), Nat.sub_self]
  rfl
def finT (l : List En) : List Int := (l.filter (fun e => decide (e.kind = 2))).map En.tgt
theorem finT_app (l : List En) (e : En) : finT (l ++ [e]) = finT l ++ (if e.kind = 2 then [e.tgt] else []) := by
  unfold finT
  rw [List.filter_append, List.map_append]
  by_cases h : e.kind = 2
  · simp [h]
  · simp [h]
theorem finT_mem {l : List En} {x : Int} : x ∈ finT l ↔ ∃ i, i < l.length ∧ (eAt l i).kind = 2 ∧ (eAt l i).tgt = x := by
  unfold finT
  rw [List.mem_map]
  constructor
  · rintro ⟨e, he, rfl⟩
    obtain ⟨h1, h2⟩ := List.mem_filter.1 he
    obtain ⟨i, hi, h3⟩ := List.getElem_of_mem h1
    refine ⟨i, hi, ?_⟩
    have h4 : eAt l i = e := by unfold eAt; rw [List.getElem?_eq_getElem hi, h3]; rfl
    rw [h4]
    exact ⟨by simpa using h2, rfl⟩
  · rintro ⟨i, hi, h1, rfl⟩
    have h4 : eAt l i = l[i] := by unfold eAt; rw [List.getElem?_eq_getElem hi]; rfl
    refine ⟨eAt l i, List.mem_filter.2 ⟨by rw [h4]; exact List.getElem_mem hi, by simpa using h1⟩, rfl⟩
theorem finT_len (l : List En) : (finT l).length ≤ l.length := by
  unfold finT
  rw [List.length_map]
  exact List.length_filter_le _ _
theorem Rch_nil {M : Hp} {k : Int} (h : M.Rch [] k) : False := by
  induction h with
  | root h1 h2 => cases h1
  | step _ _ _ ih => exact ih
theorem live_of {M : Hp} (hM : M.OkF) (rts : List Int) : ∃ L : List Int, L.length ≤ 192 ∧ (∀ k, k ∈ L ↔ M.Rch (M.rts rts) k) ∧ ((M.reach (rts.take 20) = (L, 0)) ∨ (L = [] ∧ M.reach (rts.take 20) = ([], 3))) ∧ RInvM (M.rts rts) (Mk.new M rts) := by
  have hnb : ¬ M.badRoot (M.rts rts) := by
    unfold Hp.rts
    split
    · rintro ⟨x, hx, _⟩; simp at hx
    · assumption
  by_cases hb : M.badRoot (rts.take 20)
  · have he : M.rts rts = [] := by unfold Hp.rts; rw [if_pos hb]
    refine ⟨[], by simp, fun k => ⟨fun h => (by cases h), fun h => ?_⟩, .inr ⟨rfl, by unfold Hp.reach; rw [if_pos hb]⟩, RInvM.start hM hnb⟩
    rw [he] at h
    exact (Rch_nil h).elim
  · have he : M.rts rts = rts.take 20 := by unfold Hp.rts; rw [if_neg hb]
    refine ⟨M.reachL (rts.take 20), Hp.reachL_len _ _, fun k => by rw [he]; exact hM.ok.mem_reach hb, .inl (by unfold Hp.reach; rw [if_neg hb]), RInvM.start hM hnb⟩
section
variable {M : Hp} {m1 mf : Mk} {t tf : Tb} {rts LIVE : List Int}
theorem keep_nb (hM : M.OkF) (hM1 : m1.M = M) (hb : t.Base m1) (hlv : ∀ k, k ∈ LIVE ↔ M.Rch (M.rts rts) k) (hnz : ∀ j, j < t.ents.length → (eAt t.ents j).tgt ≠ 0) : ¬ M.badRoot (LIVE ++ finT t.ents) := by
  have hnb : ¬ M.badRoot (M.rts rts) := by
    unfold Hp.rts
    split
    · rintro ⟨x, hx, _⟩; simp at hx
    · assumption
  rintro ⟨x, hx, h0, hn⟩
  rcases List.mem_append.1 hx with h | h
  · have := (((hlv x).1 h).some hM.ok hnb).1
    rw [hn] at this; cases this
  · obtain ⟨i, hi, _, rfl⟩ := finT_mem.1 h
    have := hb.us i hi (hnz i hi)
    rw [hM1, hn] at this; cases this
theorem keep_tgt (ce : CycEnd t m1 tf mf) (hM : M.OkF) (hM1 : m1.M = M) (hb : t.Base m1) (hm : m1.Ok) (hl : m1.list = []) (hri : RInvM (M.rts rts) m1) (hlv : ∀ k, k ∈ LIVE ↔ M.Rch (M.rts rts) k) (hnz : ∀ j, j < t.ents.length → (eAt t.ents j).tgt ≠ 0) {i : Nat} (hi : i < t.ents.length) :
    (eAt tf.ents i).tgt = if (if (eAt t.ents i).kind = 3 then decide ((eAt t.ents i).tgt ∈ M.reachL (LIVE ++ finT t.ents)) else decide ((eAt t.ents i).tgt ∈ LIVE)) = true then (eAt t.ents i).tgt else 0 := by
  have hnb := keep_nb hM hM1 hb hlv hnz
  subst hM1
  by_cases hk : (eAt t.ents i).kind = 3
  · rw [if_pos hk]
    have h := ce.keep3 hb hm hl hri hlv (fin := finT t.ents) (fun x => finT_mem) (all := m1.M.reachL (LIVE ++ finT t.ents)) (fun k => hM.ok.mem_reach hnb) hi hk
    rw [h]
    by_cases h2 : (eAt t.ents i).tgt ∈ m1.M.reachL (LIVE ++ finT t.ents)
    · rw [if_pos h2, if_pos (decide_eq_true h2)]
    · rw [if_neg h2, if_neg (by simpa using h2)]
  · rw [if_neg hk]
    have h := ce.keep2 hb hm hl hri hlv hi hk (hnz i hi)
    rw [h]
    by_cases h2 : (eAt t.ents i).tgt ∈ LIVE
    · rw [if_pos h2, if_pos (decide_eq_true h2)]
    · rw [if_neg h2, if_neg (by simpa using h2)]
end
section
variable {w1 : World} {bo hb q p r tb ub : Nat} {m1 m0 : Mk} {t t0 : Tb} {tl : List Asn} {A : Asn}
theorem G7.snoc {w : World} (h : Fam w1 w (G7 bo hb q p r tb ub m1 m0 t t0 tl ++ [A])) : Fam w1 w (G7 bo hb q p r tb ub m1 m0 t t0 (tl ++ [A])) := h
theorem G7.tbatK {w0 w : World} {m2 : Mk} {t2 : Tb} (h : Fam w0 w (G7 bo hb q p r tb ub m1 m2 t t2 tl)) : ∃ ev qv mo, TbAt w tb ev qv mo t t.ents.length := PL.tb (G7.TP bo hb q p r tb ub m1 m2 t t2 tl) (m := m1) (hb := hb) (p := p) h
theorem tbegin7 (hg : t.Good m1) : ∀ wx, Fam w1 wx (G7 bo hb q p r tb ub m1 m0 t t0 tl) → Calls Try.prog 9 #[.pointer (some ⟨tb, 0, none⟩), .pointer (some ⟨p, 0, none⟩)] wx (fun e w' => e = .returned (.int .i64 (t.begin m1).1) ∧ Fam w1 w' (G7 bo hb q p r tb ub m1 m0 (t.begin m1).2 t0 tl)) := fun wx hx => tbegin_rep wx (G7.TP bo hb q p r tb ub m1 m0 t t0 tl) hx hg
theorem tfinish7 (hg : t.Good m1) (hm : m1.Ok) : ∀ wx, Fam w1 wx (G7 bo hb q p r tb ub m1 m0 t t0 tl) → Calls Try.prog 10 #[.pointer (some ⟨tb, 0, none⟩), .pointer (some ⟨p, 0, none⟩)] wx (fun e w' => e = .returned (.tuple #[.int .i64 (t.finish m1).1, .int .i64 (t.finish m1).2.1]) ∧ Fam w1 w' (G7 bo hb q p r tb ub (t.finish m1).2.2.2 m0 (t.finish m1).2.2.1 t0 tl)) := fun wx hx => tfinish_rep wx (G7.TP bo hb q p r tb ub m1 m0 t t0 tl) hx hg hm
end
theorem upI_len (t : Tb) (m : Mk) (k : Nat) : (t.upI m k).length ≤ k := by
  unfold Tb.upI
  exact Nat.le_trans (List.length_filter_le _ _) (by rw [List.length_range]; exact Nat.le_refl _)
theorem ups_len (t : Tb) (m : Mk) {k n : Nat} (hk : k ≤ n) : (t.ups m k).length ≤ n := by
  unfold Tb.ups
  rw [List.length_map]
  exact Nat.le_trans (upI_len t m k) hk
theorem has_any (w : World) (a : Option Addr) (n c : Nat) (l : List Int) (hl : l.length = n) (hr : Read w (.slice a n c) l) (hn : n ≤ 1000) (x : Int) : Calls Try.prog 12 #[.slice a n c, .int .i64 x] w (Exact w (.bool (decide (x ∈ l)))) := by
  refine calls_abs fun R hR => ?_
  have HR := Lib.hid hr
  have HL := Lib.hid hl
  clear hr hl
  go_enter Try.func12, Try.ntmps12
  go_wp2_with fail
  go_loopw [5] (fun iv wr => ∃ k : Nat, k ≤ n ∧ iv = .int .i64 k ∧ wr = w ∧ Hid (∀ j, j < k → gI l j ≠ x)) (fun iv _ => n - (intOf iv).toNat)
  case atStart => exact ⟨0, by omega, rfl, rfl, fun j hj => by omega⟩
  case round => as_aux_lemma =>
    obtain ⟨k, hk, rfl, rfl, HB⟩ := hrel
    by_cases hlt : k < n
    · have hlt1 : (k : Int) < (n : Int) := by omega
      have hkl : k < l.length := by rw [HL.out]; exact hlt
      obtain ⟨vb, vo, rfl, hcl⟩ := HR.out.at hkl
      by_cases he : gI l k = x
      · have hin : decide (x ∈ l) = true := decide_eq_true (mem_gI.2 ⟨k, hkl, he⟩)
        rw [hin] at hR
        rw [he] at hcl
        clear he hin hkl
        go_wp2_with fail
        exact hR.out _ _ ⟨rfl, rfl⟩
      · have heb : (gI l k == x) = false := by simpa using he
        have HBN : Hid (∀ j, j < k + 1 → gI l j ≠ x) := fun j hj => by
          by_cases e : j = k
          · rw [e]; exact he
          · exact HB.out j (by omega)
        clear he hkl
        generalize gI l k = z at *
        go_wp2_with fail
        exact ⟨⟨k + 1, by omega, by go_num, by trivial, HBN⟩, by simp [intOf]; omega⟩
    · obtain rfl : k = n := by omega
      have hlt1 : ¬ (k : Int) < (k : Int) := by omega
      have hout : decide (x ∈ l) = false := decide_eq_false (fun e => by
        obtain ⟨j, hj, e2⟩ := mem_gI.1 e
        exact HB.out j (by rw [← HL.out]; exact hj) e2)
      rw [hout] at hR
      clear hout
      go_wp2_with fail
      exact hR.out _ _ ⟨rfl, rfl⟩
end Go.Proofs.Ythflghdaejbdkaa
