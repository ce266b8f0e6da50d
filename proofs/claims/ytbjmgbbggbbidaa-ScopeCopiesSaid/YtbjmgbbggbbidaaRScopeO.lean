/- Contracts of the reference's memories: New. -/
import Derived.Test.YtbjmgbbggbbidaaRScopeN
namespace Go.Proofs.Ytbjmgbbggbbidaa
open Go.RowKit Go.Maps
set_option maxHeartbeats 3200000
set_option maxRecDepth 100000
set_option linter.unusedVariables false
theorem rnew_bad (w : World) (v : Value) (l : List Int) (hr : Read w v l) (hl : l.length ≤ 1000000) (hb : goodSizes l = false) :
    Calls Try.prog 44 #[v] w (Exact w (.tuple #[.pointer none, .int .i64 1])) := by
  refine calls_abs fun R hR => ?_
  obtain ⟨a, c, e⟩ := hr.len
  subst e
  rw [goodSizes_eq] at hb
  by_cases h6 : l.length ≤ 6
  · have hb2 : l.any badS = true := by simp only [h6, decide_true, Bool.true_and] at hb; simpa using hb
    have HB := Lib.hid hb2
    have HR := Lib.hid hr
    obtain ⟨n, hn⟩ : ∃ n, n = l.length := ⟨_, rfl⟩
    rw [← hn] at h6 HR ⊢
    have HN := Lib.hid hn
    clear hb hb2 hr hn
    go_enter Try.func44, Try.ntmps44
    go_wp2_with fail
    go_loop [4] (fun iv => ∃ k : Nat, k ≤ n ∧ iv = .int .i64 k ∧ Hid ((l.take k).any badS = false)) (fun iv => n - (intOf iv).toNat)
    case atStart => exact ⟨0, by omega, rfl, rfl⟩
    case round =>
      obtain ⟨k, hk, rfl, hf⟩ := hrel
      by_cases hlt : k < n
      · have hlt' : k < l.length := by have := HN.out; omega
        rcases HR.out with ⟨b, o, d, f1, g1⟩ | ⟨oa, d, f1, g1⟩
        rotate_left
        · rw [g1] at hlt'; simp at hlt'
        have e1 : a = some ⟨b, o, none⟩ := by cases f1; rfl
        subst e1
        have hck := g1 k hlt'
        have hst : badS (gI l k) = false → Hid ((l.take (k + 1)).any badS = false) := fun h => any_step hlt' hf.out h
        obtain ⟨z, hz⟩ : ∃ z, z = gI l k := ⟨_, rfl⟩
        rw [← hz] at hck hst
        clear g1 hz f1
        by_cases h1 : z < 1
        · clear hst
          go_wp2_with fail
          exact hR.out _ _ ⟨rfl, rfl⟩
        · by_cases h2 : 24 < z
          · clear hst
            go_wp2_with fail
            exact hR.out _ _ ⟨rfl, rfl⟩
          · have hs2 := hst (by unfold badS; simp [h1, h2])
            clear hst
            go_wp2_with fail
            exact ⟨⟨k + 1, by omega, by go_num, hs2⟩, by simp [intOf]; omega⟩
      · have := hf.out
        obtain rfl : k = n := by omega
        rw [HN.out, List.take_length, HB.out] at this
        cases this
  · have h7 : 6 < l.length := by omega
    clear hb
    go_enter Try.func44, Try.ntmps44
    go_wp2_with fail
    exact hR.out _ _ ⟨rfl, rfl⟩

/-- A copy: append to an empty slice, as a step of a region that draws. -/
theorem step_cpy {ops : Array Oper} {o : Oper} {ac : Act} {wl : World} {K : Act → World → Prop} {Q : Exit → Act → World → Prop} {E : Prop} (hgd : o.guard = none) (s x : Operand)
    (ho : o.op = .call { callee := .builtin .append, args := #[s, x], argTypes := #[22, 22] }) (w0 : World) (hO : Only [] w0 wl) (b : Nat) (hown : Ints wl w0.heap.size (.slice (some ⟨b, 0, none⟩) 0 0) [])
    (hs : ac.eval s = .slice (some ⟨b, 0, none⟩) 0 0) (va : Option Addr) (n vc : Nat) (l : List Int) (hl : n = l.length) (hx : ac.eval x = .slice va n vc) (hr : Read w0 (.slice va n vc) l) (hb : n ≤ 1000000)
    (h : ∀ g cap w', Ints w' w0.heap.size (.slice (some ⟨g, 0, none⟩) n cap) l → Only [] w0 w' → wl.grownBy w' (some b) → (b = g ∨ g = wl.heap.size) → g < w'.heap.size → K (ac.put o.dst (.slice (some ⟨g, 0, none⟩) n cap)) w') :
    if Region.wanted o (yielded ops ac.tmps) = true then Oper.wp Try.prog o ac wl K Q else E := by
  by_cases h0 : n = 0
  · subst h0
    have hnil : l = [] := List.eq_nil_of_length_eq_zero hl.symm
    subst hnil
    exact step_app0 hgd s x ho (some ⟨b, 0, none⟩) 0 0 (Nat.le_refl _) va vc hs hx (h b 0 wl hown hO ⟨rfl, rfl, rfl, Nat.le_refl _, fun _ _ _ => rfl⟩ (.inl rfl) (hown.own b rfl).2)
  · obtain ⟨i0, hi0, hz0, hz1, hz2⟩ := info_parts infoInt
    rcases hr with ⟨rb, ro, rc, e1, e2⟩ | ⟨oa, rc, e1, e2⟩
    · simp only [Value.slice.injEq] at e1
      obtain ⟨rfl, _, rfl⟩ := e1
      refine step_append_lies _ hgd s x 22 ho w0.heap.size 3 i0 _ 1 8 Try.underlying22 hi0 hz0 hz1 hz2 rfl (by omega) _ 0 [] hs hown ⟨rb, ro, none⟩ n vc (l.map (.int .i64)) hx (by simp [hl]) (fun j u hu => ?_) (fun u hu => ?_) (by omega) (by simp only [maxLen]; omega) (by omega) hO.size wl.heap.size rfl ?_
      · simp only [List.getElem?_map, Option.map_eq_some_iff] at hu
        obtain ⟨y, hy, rfl⟩ := hu
        have hj := (List.getElem?_eq_some_iff.1 hy).1
        have := e2 j hj
        rw [gI, hy] at this
        rw [addr_add]
        exact hO.cell this (by simp)
      · simp only [List.mem_map] at hu
        obtain ⟨y, _, rfl⟩ := hu
        rfl
      · intro g cap w' h1 h2 h3 h4
        rw [Nat.zero_add] at h1 ⊢
        refine h g cap w' ?_ (hO.grown h2 (fun k hk => .inr (hown.own k hk).1)) h2 (h3.imp (fun e => by simpa [Value.ownBlock] using e) id) h4
        unfold Ints
        rw [← hl]
        simpa using h1
    · exact absurd (by rw [hl, e2]; rfl) h0
/-- What the making of the parts yields. -/
structure NewAt (w W : World) (n : Nat) (l : List Int) (g cap pg : Nat) (CI : Array Value) : Prop where
  sz : Ints W w.heap.size (.slice (some ⟨g, 0, none⟩) n cap) l
  pr : Row W pg 3 CI.toList
  ge : w.heap.size ≤ pg
  ne : pg ≠ g
  o : Only [] w W
  glt : g < W.heap.size
theorem newA {w w1 : World} {n g cap b : Nat} {l : List Int} {CI : Array Value} (h1 : Ints w1 w.heap.size (.slice (some ⟨g, 0, none⟩) n cap) l) (h2 : Only [] w w1) (h3 : g < w1.heap.size) : NewAt w (w1.alloc (.cells CI 3)) n l g cap w1.heap.size CI :=
  ⟨h1.alloc _, Row.new w1 _ CI.toList, h2.size, by omega, h2.alloc _, by simp; omega⟩
theorem newB {w wl w1 : World} {n g cap b pg : Nat} {l : List Int} {CI : Array Value} (h0 : Row wl pg 3 CI.toList) (hpg : w.heap.size ≤ pg) (hne : pg ≠ b) (h1 : Ints w1 w.heap.size (.slice (some ⟨g, 0, none⟩) n cap) l) (h2 : Only [] w w1) (h3 : wl.grownBy w1 (some b)) (h4 : b = g ∨ g = wl.heap.size) (h5 : g < w1.heap.size) : NewAt w w1 n l g cap pg CI :=
  ⟨h1, h0.grown h3 (by simpa using hne), hpg, by rcases h4 with rfl | rfl; exact hne; have := h0.lt; omega, h2, h5⟩
theorem infoSl : (Try.prog.info? 22).map (fun i => (i.zero, i.size, i.bytes)) = some (some (.slice none 0 0), 1, 24) := by kernel_rfl
theorem ownsRow_setNe {w : World} {base : Nat} {e : TypeId} {size : Nat} {v : Value} {n : Nat} {xs : List Value} (h : w.ownsRow base e size v n xs) {a : Addr} (ha : v.ownBlock ≠ some a.block) (x : Value) : (w.setCell a x).ownsRow base e size v n xs := by
  refine ⟨h.1, ?_⟩
  rcases h.2 with h2 | ⟨g, cap, cur, hv, hb, hh, r⟩
  · exact .inl h2
  · refine .inr ⟨g, cap, cur, hv, hb, ?_, r⟩
    have hr : Row w g e cur.toList := by unfold Row; rw [hh]
    have := hr.other (a := a) (by intro e1; apply ha; rw [hv, ← e1]; rfl) x
    unfold Row at this
    rw [this]
theorem ownsRow_type {w : World} {base : Nat} {e T : TypeId} {size : Nat} {v : Value} {n b : Nat} {xs cs : List Value} (h : w.ownsRow base e size v n xs) (hr : Row w b T cs) (hT : T ≠ e) : v.ownBlock ≠ some b := by
  intro hv
  rcases h.2 with ⟨h2, _⟩ | ⟨g, cap, cur, hv2, hb, hh, r⟩
  · rw [h2] at hv; simp [Value.ownBlock] at hv
  · rw [hv2] at hv
    simp only [Value.ownBlock, Option.some.injEq] at hv
    subst hv
    unfold Row at hr
    rw [hh] at hr
    simp only [Option.some.injEq, Obj.cells.injEq] at hr
    exact hT hr.2.1.symm
/-- The stacks that are there. -/
def StAt (w : World) (G : Nat) (svs : List Value) : Prop := ∀ (i : Nat) (v : Value), svs[i]? = some v → ∃ b, v = .slice (some ⟨b, 0, none⟩) 1 1 ∧ G ≤ b ∧ Row w b 3 [.int .i64 0]
def newL (w W : World) (q pg sg : Nat) : Nat → Option Rb := fun k => if k = q then some .mem else if k = pg then some .por else if k = sg then some .stk else if w.heap.size ≤ k ∧ k < W.heap.size then some .ro else none
def newX (g n cap sg sc pg : Nat) (svs : List Value) : RX := ⟨.slice (some ⟨g, 0, none⟩) n cap, sg, sc, fun t => svs[t]?.getD (.slice none 0 0), .slice none 0 0, fun _ => .slice none 0 0, pg, n + 2⟩
theorem new_end {w wo W : World} {n g cap pg q sg sc : Nat} {l : List Int} {CI : Array Value} {svs : List Value} (hn : n = l.length) (hCI : ∀ x, x < n + 2 → CI.toList[x]? = some (.int .i64 0)) (hN : NewAt w wo n l g cap pg CI) (hq : q = wo.heap.size)
    (hO : Only [q] (wo.alloc (.cells #[.slice (some ⟨g, 0, none⟩) n cap, .slice none 0 0, .slice none 0 0, .slice (some ⟨pg, 0, none⟩) (n + 2) (n + 2)] 32)) W)
    (hrow : Row W q 32 [.slice (some ⟨g, 0, none⟩) n cap, .slice (some ⟨sg, 0, none⟩) 5 sc, .slice none 0 0, .slice (some ⟨pg, 0, none⟩) (n + 2) (n + 2)]) (hown : W.ownsRow (q + 1) 22 1 (.slice (some ⟨sg, 0, none⟩) 5 sc) 5 svs) (hst : StAt W (q + 1) svs) :
    ∃ L X, RRep W L q (Sc.new l) X ∧ (∀ k, L k ≠ none → w.heap.size ≤ k) ∧ Only [] w W := by
  have hO2 : Only [] w W := (hN.o.alloc _).trans hO (fun x hx => by simp at hx; exact .inr (by have := hN.o.size; omega))
  have hpgr : Row W pg 3 CI.toList := hO.row (hN.pr.alloc _) (by have := hN.pr.lt; simp; omega)
  have hsz : Ints W w.heap.size (.slice (some ⟨g, 0, none⟩) n cap) l := (hN.sz.alloc _).only hO (fun k hk => by have := (hN.sz.own k hk).2; simp; omega)
  have hsgq : sg ≠ q := fun e => ownsRow_type hown hrow (by decide) (by rw [e]; rfl)
  have hsgp : sg ≠ pg := fun e => ownsRow_type hown hpgr (by decide) (by rw [e]; rfl)
  have hgl := hN.glt
  have hgb := hN.pr.lt
  have hsgl : sg < W.heap.size ∧ q + 1 ≤ sg := ⟨(World.ownsRow.lt hown sg rfl).2, (World.ownsRow.lt hown sg rfl).1⟩
  have hl5 : svs.length = 5 := by have := hown.1; omega
  have hsr : ∃ T cs, Row W sg T cs ∧ ∀ t, t < 5 → cs[t]? = some ((newX g n cap sg sc pg svs).sv t) := by
    rcases hown.2 with ⟨h2, _⟩ | ⟨g', cap', cur, hv, hb, hh, hc, hm, hs, ht⟩
    · cases h2
    · simp only [Value.slice.injEq, Option.some.injEq, Addr.mk.injEq] at hv
      obtain ⟨⟨rfl, _⟩, _, rfl⟩ := hv
      refine ⟨_, cur.toList, by unfold Row; rw [hh], fun t htt => ?_⟩
      have : svs[t]? = some svs[t] := List.getElem?_eq_getElem (by omega)
      show _ = some (svs[t]?.getD _)
      rw [this, Option.getD_some, ← this, ← ht, List.getElem?_take, if_pos (by omega)]
  refine ⟨newL w W q pg sg, newX g n cap sg sc pg svs, ?_, fun k hk => ?_, hO2⟩
  refine RRep.mk (fun k hk => ?_) ⟨32, ?_⟩ (if_pos rfl) (hsz.base (Nat.zero_le _)) (fun k hk => ?_) hsr ?_ (fun t ht => ?_) ⟨.inl ⟨rfl, rfl⟩, fun j o hj => by simp [Sc.new] at hj⟩ ⟨3, CI.toList, hpgr, fun a ha => ?_⟩ ?_
  · unfold newL at hk
    have h1 := hrow.lt
    have h2 := hpgr.lt
    by_cases e1 : k = q
    · omega
    · by_cases e2 : k = pg
      · omega
      · by_cases e3 : k = sg
        · omega
        · by_cases e4 : w.heap.size ≤ k ∧ k < W.heap.size
          · exact e4.2
          · simp [e1, e2, e3, e4] at hk
  · have e : (Sc.new l).n = n := hn.symm
    rw [e]
    exact hrow
  · have hk2 : (Value.slice (some ⟨g, 0, none⟩) n cap).ownBlock = some k := hk
    have hk' : g = k := by simpa [Value.ownBlock] using hk2
    subst hk'
    have h1 := hsz.own g rfl
    have h2 := hN.ne
    show (if g = q then some Rb.mem else if g = pg then some .por else if g = sg then some .stk else if w.heap.size ≤ g ∧ g < W.heap.size then some .ro else none) = some .ro
    rw [if_neg (by omega), if_neg (Ne.symm h2), if_neg (by omega), if_pos h1]
  · show (if sg = q then some Rb.mem else if sg = pg then some .por else if sg = sg then some .stk else if w.heap.size ≤ sg ∧ sg < W.heap.size then some .ro else none) = some .stk
    rw [if_neg hsgq, if_neg hsgp, if_pos rfl]
  · have e1 : svs[t]? = some svs[t] := List.getElem?_eq_getElem (by omega)
    obtain ⟨b, hv, hb, hr⟩ := hst t _ e1
    show Ints W 0 (svs[t]?.getD _) [0] ∧ _
    rw [e1, Option.getD_some, hv]
    refine ⟨Ints.ofRow (l := [0]) (Nat.zero_le _) hr rfl rfl (Nat.le_refl _) (by decide), fun k hk => ?_⟩
    have hk' : (svs[t]?.getD (.slice none 0 0)).ownBlock = some k := hk
    rw [e1, Option.getD_some, hv] at hk'
    have hk2 : b = k := by simpa [Value.ownBlock] using hk'
    subst hk2
    have hbs : b ≠ sg := fun e => ownsRow_type hown hr (by decide) (by rw [e]; rfl)
    show (if b = q then some Rb.mem else if b = pg then some .por else if b = sg then some .stk else if w.heap.size ≤ b ∧ b < W.heap.size then some .ro else none) = some .ro
    have := hN.o.size
    rw [if_neg (by omega), if_neg (by omega), if_neg hbs, if_pos ⟨by omega, hr.lt⟩]
  · rw [hCI a (by have e : (Sc.new l).n = n := hn.symm; omega)]
    rfl
  · show (if pg = q then some Rb.mem else if pg = pg then some .por else if pg = sg then some .stk else if w.heap.size ≤ pg ∧ pg < W.heap.size then some .ro else none) = some .por
    rw [if_neg (by omega), if_pos rfl]
  · unfold newL at hk
    have h1 := hN.o.size
    have h2 := hN.ge
    by_cases e1 : k = q
    · omega
    · by_cases e2 : k = pg
      · omega
      · by_cases e3 : k = sg
        · omega
        · by_cases e4 : w.heap.size ≤ k ∧ k < W.heap.size
          · exact e4.1
          · simp [e1, e2, e3, e4] at hk
end Go.Proofs.Ytbjmgbbggbbidaa
