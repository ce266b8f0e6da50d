/- Lemmas of this claim. -/
import Derived.Test.YtkacgbigeobncaaGreatTaCdE
import Derived.Test.YtkacgbigeobncaaGreatTaCdA
namespace Go.Proofs.YtkacgbigeobncaaGreat
open Go.RowKit Go.Maps
set_option maxHeartbeats 6400000
set_option maxRecDepth 100000
set_option linter.unusedVariables false
set_option linter.unusedSimpArgs false
def Ent (fid : FuncId) : Prop := ∀ (args : Array Value) (w : World), (callFunc fid args).run Tryz.prog w = .ok (.enter fid args) w
theorem ent {fid : FuncId} {fn : Func} (hf : Tryz.prog.funcs[fid]? = some fn) (hn : (fn.name == "runtime.NumGoroutine") = false) (hb : fn.body.isNone = false) : Ent fid := by
  intro args w
  have h1 : ¬ fn.name = "runtime.NumGoroutine" := by simpa using hn
  have h2 : ¬ fn.body = none := fun h => by rw [h] at hb; cases hb
  simp [callFunc, hf, h1, h2]
def FnIns (fid : FuncId) (caps : Array Value) (w : World) (l : List Ins) (p : Ins → Bool) : Prop := Ent fid ∧ ∀ x, x ∈ l → ∀ w', Only [] w w' → Calls Tryz.prog fid (#[x.val] ++ caps) w' (Ret w' (.bool (p x)))
theorem any_takeIns {p : Ins → Bool} {l : List Ins} {k : Nat} {x : Ins} (hx : l[k]? = some x) (h : (l.take k).any p = false) (hp : p x = false) : (l.take (k + 1)).any p = false := by
  rw [List.take_add_one, hx, List.any_append, h]
  simp [hp]
theorem indexFuncIns (w : World) (v : Value) (l : List Ins) (fid : FuncId) (caps : Array Value) (p : Ins → Bool) (hr : Rd Ins.row 3 w v l) (hl : l.length ≤ 1000000) (hF : FnIns fid caps w l p) :
    Calls Tryz.prog 186 #[v, .func (.func fid) #[] caps] w fun e w' => ∃ r : Int, e = .returned (.int .i64 r) ∧ decide (0 ≤ r) = l.any p ∧ Only [] w w' := by
  refine calls_abs fun R hR => ?_
  obtain ⟨va, vc, rfl⟩ := hr.len
  obtain ⟨n, hn⟩ : ∃ n, n = l.length := ⟨_, rfl⟩
  rw [← hn] at hr hl ⊢
  have HN := Lib.hid hn
  have HR := Lib.hid hr
  obtain ⟨hent, hF⟩ := hF
  have HF := Lib.hid hF
  unfold Ent at hent
  have HNO := Lib.hid (show ∀ wr, l.any p = false → Only [] w wr → R (.returned (.int .i64 (-1))) wr from fun wr h1 h2 => hR.out _ _ ⟨-1, rfl, by rw [h1]; rfl, h2⟩)
  have HYES := Lib.hid (show ∀ wr (k : Nat) x, l[k]? = some x → p x = true → Only [] w wr → R (.returned (.int .i64 k)) wr from fun wr k x h0 h1 h2 => hR.out _ _ ⟨k, rfl, by rw [List.any_eq_true.2 ⟨x, List.mem_of_getElem? h0, h1⟩]; simp, h2⟩)
  clear hn hr hF hR
  go_enter Tryz.func186, Tryz.ntmps186
  go_wp2_with fail
  go_loopw [8] (fun i wr => ∃ k : Nat, k ≤ n ∧ i = .int .i64 k ∧ Only [] w wr ∧ Hid ((l.take k).any p = false)) (fun i _ => n - (intOf i).toNat)
  case atStart => exact ⟨0, by omega, rfl, Only.refl _ _, Lib.hid rfl⟩
  case round =>
    obtain ⟨k, hk, rfl, ho, hf⟩ := hrel
    have HO := Lib.hid ho
    clear ho
    by_cases hlt : k < n
    · obtain ⟨x, hx⟩ : ∃ x, l[k]? = some x := ⟨_, List.getElem?_eq_getElem (by rw [← HN.out]; exact hlt)⟩
      obtain ⟨b0, o0, rfl, hcell⟩ := HR.out.at (by rw [← HN.out]; omega)
      have hcl := hcell wr HO.out k x hx
      have HX := Lib.hid hx
      have q0 := hcl 0 _ rfl
      have q1 := hcl 1 _ rfl
      have q2 := hcl 2 _ rfl
      simp only [Nat.add_zero] at q0
      have cf := HF.out x (List.mem_of_getElem? hx) wr HO.out
      clear hcell hcl hx
      cases hp : p x
      · rw [hp] at cf
        have HP := Lib.hid (any_takeIns HX.out hf.out hp)
        clear hp
        go_wp2_with fail
        refine cf.mono ?_
        rintro e w3 ⟨rfl, ho3⟩
        have HO3 := Lib.hid (HO.out.trans ho3 (by simp))
        clear ho3 cf q0
        go_wp2_with fail
        exact ⟨⟨k + 1, by omega, by go_num, HO3.out, HP⟩, by simp [intOf]; omega⟩
      · rw [hp] at cf
        have HP := Lib.hid hp
        clear hp
        go_wp2_with fail
        refine cf.mono ?_
        rintro e w3 ⟨rfl, ho3⟩
        have HO3 := Lib.hid (HO.out.trans ho3 (by simp))
        clear ho3 cf q0
        go_wp2_with fail
        exact HYES.out _ k x HX.out HP.out HO3.out
    · go_wp2_with fail
      refine HNO.out _ ?_ HO.out
      have := hf.out
      rwa [List.take_of_length_le (by rw [← HN.out]; omega)] at this
theorem containsFuncIns (w : World) (v : Value) (l : List Ins) (fid : FuncId) (caps : Array Value) (p : Ins → Bool) (hr : Rd Ins.row 3 w v l) (hl : l.length ≤ 1000000) (hF : FnIns fid caps w l p) :
    Calls Tryz.prog 151 #[v, .func (.func fid) #[] caps] w (Ret w (.bool (l.any p))) := by
  refine calls_abs fun R hR => ?_
  have c := indexFuncIns w v l fid caps p hr hl hF
  clear hr hF
  go_enter Tryz.func151, Tryz.ntmps151
  go_wp2_with fail
  refine c.mono ?_
  rintro e w1 ⟨r, rfl, h1, ho⟩
  have H1 := Lib.hid h1
  clear h1 c
  go_wp2_with fail
  refine hR.out _ _ ⟨?_, ho⟩
  rw [← H1.out]
  rfl
theorem ent_check1 : Ent 172 := ent Tryz.func172 (by kernel_rfl) rfl
theorem check1_any (w : World) (i : Ins) (b : Nat) (hb : w.cell? ⟨b, 0, none⟩ = some (.bool false)) : Calls Tryz.prog 172 #[i.val, .pointer (some ⟨b, 0, none⟩)] w (Ret w (.bool (!i.valid))) := by
  refine calls_abs fun R hR => ?_
  have c := fun w => valid_any w i
  have hb2 : (w.alloc (.cells #[.int .i64 i.op, .int .i64 i.a, .int .i64 i.b] 64)).cell? ⟨b, 0, none⟩ = some (.bool false) := ((Only.refl [] w).alloc _).cell hb (by simp)
  unfold Ins.val at *
  go_enter Tryz.func172, Tryz.ntmps172
  go_wp2_with fail
  refine (c _).mono ?_
  rintro e w1 ⟨rfl, ho⟩
  have HO := Lib.hid (((Only.refl [] w).alloc (.cells #[.int .i64 i.op, .int .i64 i.a, .int .i64 i.b] 64)).trans ho (by simp))
  clear c ho hb hb2
  go_wp2_with fail
  exact hR.out _ _ ⟨rfl, HO.out⟩
theorem field_ok (v0 v1 v2 v3 v4 v5 : Value) (w : World) : (Instr.field 186 (.agg #[v0, v1, v2, v3, v4, v5]) 5).run Tryz.prog w = .ok v5 w := by kernel_rfl
theorem check_any (w : World) (v : Value) (c : List Ins) (hr : RdI w v c) : Calls Tryz.prog 120 #[v, .bool false] w (Ret w (.int .i64 (codeE c))) := by
  refine calls_abs fun R hR => ?_
  have H : Hid (∀ x w', x = codeE c → Only [] w w' → R (.returned (.int .i64 x)) w') := fun x w' hx ho => hR.out _ _ ⟨by rw [hx], ho⟩
  have hr0 := hr.only ((Only.refl [] w).alloc (.cells #[.bool false] 4))
  have hF : FnIns 172 #[.pointer (some ⟨w.heap.size, 0, none⟩)] (w.alloc (.cells #[.bool false] 4)) c (fun i => !i.valid) := ⟨ent_check1, fun x hx w' ho => check1_any w' x _ (ho.cell ((Row.new w 4 [.bool false]).cell 0 rfl) (by simp))⟩
  have HCC := Lib.hid (fun h120 : c.length ≤ 120 => containsFuncIns _ v c _ _ _ hr0 (by omega) hF)
  have cs := fun (w' : World) (ho : Only [] w w') (h120 : c.length ≤ 120) => shapeOf_any w' v c (hr.only ho) h120
  obtain ⟨va, vc, rfl⟩ := hr.len
  obtain ⟨n, hn⟩ : ∃ n, n = c.length := ⟨_, rfl⟩
  rw [← hn] at HCC cs ⊢
  have HCE := Lib.hid (show codeE c = if 120 < n then 2 else if c.any (fun i => !i.valid) then 1 else if nestOk c then 0 else 7 by rw [hn]; rfl)
  have HCS := Lib.hid cs
  clear hr hr0 hF hn cs hR
  by_cases h120 : 120 < n
  · have h120I : (120 : Int) < n := by omega
    go_enter Tryz.func120, Tryz.ntmps120
    go_wp2_with fail
    exact H.out _ _ (by rw [HCE.out, if_pos h120]) ((Only.refl _ _).alloc _)
  · have cc := HCC.out (by omega)
    cases hv : c.any (fun i => !i.valid)
    · rw [hv] at cc HCE
      go_enter Tryz.func120, Tryz.ntmps120
      go_wp2_with fail
      refine cc.mono ?_
      rintro e w1 ⟨rfl, ho⟩
      have HO := Lib.hid (((Only.refl [] w).alloc (.cells #[.bool false] 4)).trans ho (by simp))
      clear cc ho
      go_wp2_with fail
      refine (HCS.out _ HO.out (by omega)).mono ?_
      rintro e w2 ⟨o, f, x, d, F, vv, rfl, ho, _⟩
      have HO2 := Lib.hid (HO.out.trans ho (by simp))
      have hfd := field_ok
      clear ho HCS
      cases hk : nestOk c
      · rw [hk] at HCE
        go_wp2_with fail
        exact H.out _ _ (by rw [HCE.out, if_neg h120]; rfl) HO2.out
      · rw [hk] at HCE
        go_wp2_with fail
        exact H.out _ _ (by rw [HCE.out, if_neg h120]; rfl) HO2.out
    · rw [hv] at cc HCE
      go_enter Tryz.func120, Tryz.ntmps120
      go_wp2_with fail
      refine cc.mono ?_
      rintro e w1 ⟨rfl, ho⟩
      have HO := Lib.hid (((Only.refl [] w).alloc (.cells #[.bool false] 4)).trans ho (by simp))
      clear cc ho HCS
      go_wp2_with fail
      exact H.out _ _ (by rw [HCE.out, if_neg h120]; rfl) HO.out
end Go.Proofs.YtkacgbigeobncaaGreat
namespace Go.Proofs.YtkacgbigeobncaaGreat
open Go.RowKit Go.Maps
set_option maxHeartbeats 6400000
set_option maxRecDepth 100000
set_option linter.unusedVariables false
set_option linter.unusedSimpArgs false
def Ty.row (t : Ty) : List Value := [.int .i64 t.kind, .int .i64 t.cls]
def Ty.val (t : Ty) : Value := .agg #[.int .i64 t.kind, .int .i64 t.cls]
abbrev RdT (w : World) (v : Value) (l : List Ty) : Prop := Rd Ty.row 2 w v l
structure CV where
  c : Cls
  fv : Value
  mv : Value
structure MV where
  m : Mth
  pv : Value
  lv : Value
  cv : Value
def CV.row (x : CV) : List Value := [.string x.c.name, .int .i64 x.c.super, x.fv, x.mv]
def MV.row (x : MV) : List Value := [.string x.m.name, .int .i64 x.m.cls, x.pv, x.lv, .int .i64 x.m.result.kind, .int .i64 x.m.result.cls, x.cv]
structure MX where
  vc : Value
  vs : Value
  vm : Value
  cs : List CV
  ms : List MV
def modV (X : MX) (M : Mod) : Value := .agg #[X.vc, X.vs, X.vm, .int .i64 M.sel]
structure ModA (w : World) (X : MX) (M : Mod) : Prop where
  ec : M.classes = X.cs.map (·.c)
  em : M.methods = X.ms.map (·.m)
  rc : Rd CV.row 4 w X.vc X.cs
  rs : RdT w X.vs M.statics
  rm : Rd MV.row 7 w X.vm X.ms
  cl : ∀ x, x ∈ X.cs → RdT w x.fv x.c.fields ∧ Read w x.mv x.c.meths
  me : ∀ x, x ∈ X.ms → RdT w x.pv x.m.params ∧ RdT w x.lv x.m.locals ∧ RdI w x.cv x.m.code
theorem Read.only0 {w w' : World} {v : Value} {l : List Int} (h : Read w v l) (ho : Only [] w w') : Read w' v l := by
  rcases h with ⟨b, o, c, h1, h2⟩ | h
  · exact .inl ⟨b, o, c, h1, fun i hi => ho.cell (h2 i hi) (by simp)⟩
  · exact .inr h
section
variable {w w' : World} {X : MX} {M : Mod}
theorem ModA.only (h : ModA w X M) (ho : Only [] w w') : ModA w' X M :=
  ⟨h.ec, h.em, h.rc.only ho, h.rs.only ho, h.rm.only ho, fun x hx => ⟨(h.cl x hx).1.only ho, (h.cl x hx).2.only0 ho⟩, fun x hx => ⟨(h.me x hx).1.only ho, (h.me x hx).2.1.only ho, (h.me x hx).2.2.only ho⟩⟩
theorem ModA.lens (h : ModA w X M) : ∃ a c b d e f, X.vc = .slice a M.classes.length c ∧ X.vs = .slice b M.statics.length d ∧ X.vm = .slice e M.methods.length f := by
  obtain ⟨a, c, h1⟩ := h.rc.len
  obtain ⟨b, d, h2⟩ := h.rs.len
  obtain ⟨e, f, h3⟩ := h.rm.len
  exact ⟨a, c, b, d, e, f, by rw [h1, h.ec, List.length_map], h2, by rw [h3, h.em, List.length_map]⟩
theorem ModA.class (h : ModA w X M) {k : Nat} (hk : k < M.classes.length) : ∃ x, X.cs[k]? = some x ∧ x.c = M.cl k := by
  have hl : k < X.cs.length := by rw [h.ec, List.length_map] at hk; exact hk
  refine ⟨X.cs[k], List.getElem?_eq_getElem hl, ?_⟩
  unfold Mod.cl
  rw [h.ec, List.getD_eq_getElem?_getD, List.getElem?_map, List.getElem?_eq_getElem hl]
  rfl
theorem ModA.method (h : ModA w X M) {k : Nat} (hk : k < M.methods.length) : ∃ x, X.ms[k]? = some x ∧ x.m = M.me k := by
  have hl : k < X.ms.length := by rw [h.em, List.length_map] at hk; exact hk
  refine ⟨X.ms[k], List.getElem?_eq_getElem hl, ?_⟩
  unfold Mod.me
  rw [h.em, List.getD_eq_getElem?_getD, List.getElem?_map, List.getElem?_eq_getElem hl]
  rfl
theorem ModA.clAt (h : ModA w X M) {k : Nat} (hk : k < M.classes.length) : ∃ b o c fv mv, X.vc = .slice (some ⟨b, o, none⟩) M.classes.length c ∧ RdT w fv (M.cl k).fields ∧ Read w mv (M.cl k).meths ∧
    ∀ wr, Only [] w wr → wr.cell? ⟨b, o + k * 4, none⟩ = some (.string (M.cl k).name) ∧ wr.cell? ⟨b, o + k * 4 + 1, none⟩ = some (.int .i64 (M.cl k).super) ∧ wr.cell? ⟨b, o + k * 4 + 2, none⟩ = some fv ∧ wr.cell? ⟨b, o + k * 4 + 3, none⟩ = some mv := by
  obtain ⟨x, hx, he⟩ := h.class hk
  obtain ⟨a, c, hv⟩ := h.rc.len
  have hr := h.rc
  rw [hv] at hr
  obtain ⟨b, o, rfl, hc⟩ := hr.at (List.length_pos_of_mem (List.mem_of_getElem? hx))
  refine ⟨b, o, c, x.fv, x.mv, by rw [hv, h.ec, List.length_map], ?_, ?_, fun wr ho => ⟨?_, ?_, ?_, ?_⟩⟩
  · rw [← he]; exact (h.cl x (List.mem_of_getElem? hx)).1
  · rw [← he]; exact (h.cl x (List.mem_of_getElem? hx)).2
  · rw [← he]; exact hc wr ho k x hx 0 _ rfl
  · rw [← he]; exact hc wr ho k x hx 1 _ rfl
  · exact hc wr ho k x hx 2 _ rfl
  · exact hc wr ho k x hx 3 _ rfl
theorem ModA.meAt (h : ModA w X M) {k : Nat} (hk : k < M.methods.length) : ∃ b o c pv lv cv, X.vm = .slice (some ⟨b, o, none⟩) M.methods.length c ∧ RdT w pv (M.me k).params ∧ RdT w lv (M.me k).locals ∧ RdI w cv (M.me k).code ∧
    ∀ wr, Only [] w wr → wr.cell? ⟨b, o + k * 7, none⟩ = some (.string (M.me k).name) ∧ wr.cell? ⟨b, o + k * 7 + 1, none⟩ = some (.int .i64 (M.me k).cls) ∧ wr.cell? ⟨b, o + k * 7 + 2, none⟩ = some pv ∧ wr.cell? ⟨b, o + k * 7 + 3, none⟩ = some lv ∧
      wr.cell? ⟨b, o + k * 7 + 4, none⟩ = some (.int .i64 (M.me k).result.kind) ∧ wr.cell? ⟨b, o + k * 7 + 5, none⟩ = some (.int .i64 (M.me k).result.cls) ∧ wr.cell? ⟨b, o + k * 7 + 6, none⟩ = some cv := by
  obtain ⟨x, hx, he⟩ := h.method hk
  obtain ⟨a, c, hv⟩ := h.rm.len
  have hr := h.rm
  rw [hv] at hr
  obtain ⟨b, o, rfl, hc⟩ := hr.at (List.length_pos_of_mem (List.mem_of_getElem? hx))
  have hm := h.me x (List.mem_of_getElem? hx)
  refine ⟨b, o, c, x.pv, x.lv, x.cv, by rw [hv, h.em, List.length_map], ?_, ?_, ?_, fun wr ho => ⟨?_, ?_, ?_, ?_, ?_, ?_, ?_⟩⟩
  · rw [← he]; exact hm.1
  · rw [← he]; exact hm.2.1
  · rw [← he]; exact hm.2.2
  · rw [← he]; exact hc wr ho k x hx 0 _ rfl
  · rw [← he]; exact hc wr ho k x hx 1 _ rfl
  · exact hc wr ho k x hx 2 _ rfl
  · exact hc wr ho k x hx 3 _ rfl
  · rw [← he]; exact hc wr ho k x hx 4 _ rfl
  · rw [← he]; exact hc wr ho k x hx 5 _ rfl
  · exact hc wr ho k x hx 6 _ rfl
end
section
variable (w : World) (X : MX) (M : Mod)
theorem isClass_any (h : ModA w X M) (n : Int) : Calls Tryz.prog 185 #[modV X M, .int .i64 n] w (Ret w (.bool (M.isClass n))) := by
  refine calls_abs fun R hR => ?_
  have H : Hid (∀ b w', b = M.isClass n → Only [] w w' → R (.returned (.bool b)) w') := fun b w' hb ho => hR.out _ _ ⟨by rw [hb], ho⟩
  obtain ⟨a, c, b, d, e, f, h1, h2, h3⟩ := h.lens
  obtain ⟨nc, hnc⟩ : ∃ z, z = M.classes.length := ⟨_, rfl⟩
  have HI := Lib.hid (show M.isClass n = (decide (0 ≤ n) && decide (n < nc)) by rw [hnc]; rfl)
  unfold modV
  rw [h1, h2, h3, ← hnc]
  clear h h1 h2 h3 hnc hR
  go_enter Tryz.func185, Tryz.ntmps185
  go_wp2_with fail
  all_goals
    refine H.out _ _ ?_ ((Only.refl _ _).alloc _)
    rw [HI.out]
    first | (simp_all; done) | (simp_all; omega) | rfl
end
end Go.Proofs.YtkacgbigeobncaaGreat
