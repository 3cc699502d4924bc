/- Plans: what the checks, the sizes, the copies, the comparisons and the marks compute. Conditions: none. -/
import Derived.Test.YtjgbjahpncfhhaaPS1x
import Derived.Test.YtjgbjahpncfhhaaPK
namespace Go.Proofs.Ytjgbjahpncfhhaa.PlanOk
open Go.RowKit Go.Proofs.YtjgbjahpncfhhaaW.PrintWords Go.Proofs.YtjgbjahpncfhhaaW.PrintLast Go.Proofs.YtjgbjahpncfhhaaW.PrintMore Go.Proofs.Ytjgbjahpncfhhaa.PK Go.Proofs.Ytjgbjahpncfhhaa.PS1

def okFrom (fr pa : Int) : Int → List S143 → Bool
  | _, [] => true
  | e, x :: t => if (0 ≤ x.f0 ∧ x.f0 ≤ pa - 1) ∧ (1 ≤ x.f2 ∧ x.f2 ≤ 10000) ∧ (e ≤ x.f1 ∧ x.f1 + x.f2 ≤ fr) then okFrom fr pa (x.f1 + x.f2) t else false
def headOk (fr pa : Int) (n : Nat) : Prop := (1 ≤ fr ∧ fr ≤ 100000) ∧ (1 ≤ pa ∧ pa ≤ 10) ∧ n ≤ 40
instance (fr pa : Int) (n : Nat) : Decidable (headOk fr pa n) := by unfold headOk; infer_instance
def planOk (fr pa : Int) (ws : List S143) : Bool := decide (headOk fr pa ws.length) && okFrom fr pa 0 ws
theorem planOk_iff {fr pa : Int} {ws : List S143} : planOk fr pa ws = true ↔ ((1 ≤ fr ∧ fr ≤ 100000) ∧ (1 ≤ pa ∧ pa ≤ 10) ∧ ws.length ≤ 40) ∧ okFrom fr pa 0 ws = true := by
  unfold planOk
  rw [Bool.and_eq_true, decide_eq_true_iff]
  exact Iff.rfl
theorem okFrom_cons {fr pa e : Int} {x : S143} {t : List S143} (h : okFrom fr pa e (x :: t) = true) :
    ((0 ≤ x.f0 ∧ x.f0 ≤ pa - 1) ∧ (1 ≤ x.f2 ∧ x.f2 ≤ 10000) ∧ (e ≤ x.f1 ∧ x.f1 + x.f2 ≤ fr)) ∧ okFrom fr pa (x.f1 + x.f2) t = true := by
  unfold okFrom at h
  split at h
  · exact ⟨by assumption, h⟩
  · cases h
theorem rd_at {xs : List S143} {i : Nat} (h : i < xs.length) : rd_T143 xs (i : Int) = xs[i] := getD_at h
theorem rd_at' {xs : List S224} {i : Nat} (h : i < xs.length) : rd_T224 xs (i : Int) = xs[i] := getD_at h
theorem in_l1 (a b c : Int) : spec_l1In.f a b c = some (decide (b ≤ a ∧ a ≤ c)) := by
  unfold spec_l1In.f
  by_cases h : a ≥ b
  · rw [if_pos h]; simp [show b ≤ a from h]
  · rw [if_neg h]; simp [show ¬ b ≤ a from h]
theorem in_im (a b c : Int) : impl_in.f a b c = some (decide (b ≤ a ∧ a ≤ c)) := by
  unfold impl_in.f
  by_cases h : a ≥ b
  · rw [if_pos h]; simp [show b ≤ a from h]
  · rw [if_neg h]; simp [show ¬ b ≤ a from h]

theorem spec_loop (fr pa : Int) (ws : List S143) (hh : headOk fr pa ws.length) : ∀ m i e, i + m = ws.length → 0 ≤ e → e ≤ fr →
    Ev (fun k => spec_PlanOk.l0 k e (i : Int) fr pa ws) (okFrom fr pa e (ws.drop i)) := by
  obtain ⟨⟨f0, f1⟩, ⟨p0, p1⟩, hn⟩ := hh
  intro m
  induction m with
  | zero =>
    intro i e hi h0 h1
    refine Ev.step (fun k => by rw [spec_PlanOk.l0]) ?_
    refine Ev.neg (by omega) ?_
    rw [List.drop_eq_nil_of_le (by omega)]
    exact Ev.now _
  | succ m ih =>
    intro i e hi h0 h1
    have hil : i < ws.length := by omega
    rw [List.drop_eq_getElem_cons hil]
    refine Ev.step (fun k => by rw [spec_PlanOk.l0]) ?_
    refine Ev.pos (by omega) ?_
    refine Ev.pos (by omega) ?_
    rw [rd_at hil, w64 (x := pa - 1) (by omega) (by omega)]
    refine Ev.get (in_l1 _ _ _) ?_
    unfold okFrom
    by_cases c1 : 0 ≤ ws[i].f0 ∧ ws[i].f0 ≤ pa - 1
    · refine Ev.pos (decide_eq_true c1) ?_
      refine Ev.get (in_l1 _ _ _) ?_
      by_cases c2 : 1 ≤ ws[i].f2 ∧ ws[i].f2 ≤ 10000
      · refine Ev.pos (decide_eq_true c2) ?_
        refine Ev.get (in_l1 _ _ _) ?_
        by_cases c3 : e ≤ ws[i].f1 ∧ ws[i].f1 ≤ fr
        · refine Ev.pos (decide_eq_true c3) ?_
          rw [w64 (x := ws[i].f1 + ws[i].f2) (by omega) (by omega), w64 (x := (i : Int) + 1) (by omega) (by omega)]
          by_cases c4 : ws[i].f1 + ws[i].f2 > fr
          · refine Ev.pos c4 ?_
            rw [if_neg (by omega)]
            exact Ev.now _
          · refine Ev.neg c4 ?_
            rw [if_pos ⟨c1, c2, by omega⟩]
            exact ih (i + 1) _ (by omega) (by omega) (by omega)
        · refine Ev.neg (by simpa using c3) ?_
          rw [if_neg (by omega)]
          exact Ev.now _
      · refine Ev.neg (by simpa using c2) ?_
        rw [if_neg (by omega)]
        exact Ev.now _
    · refine Ev.neg (by simpa using c1) ?_
      rw [if_neg (by omega)]
      exact Ev.now _

theorem spec_ok (fr pa : Int) (ws : List S143) (hl : ws.length ≤ 1048576) : Ev (fun k => spec_PlanOk.f k fr pa ws) (planOk fr pa ws) := by
  have stop : ∀ {q}, q = false → Ev (fun k => spec_PlanOk.j0 k true fr pa ws) q := by
    rintro _ rfl
    refine Ev.step (fun k => by rw [spec_PlanOk.j0]) ?_
    exact Ev.pos rfl (Ev.now _)
  refine Ev.get (in_l1 _ _ _) ?_
  by_cases c1 : 1 ≤ fr ∧ fr ≤ 100000
  · refine Ev.pos (decide_eq_true c1) ?_
    refine Ev.get (in_l1 _ _ _) ?_
    by_cases c2 : 1 ≤ pa ∧ pa ≤ 10
    · refine Ev.pos (decide_eq_true c2) ?_
      by_cases c3 : ws.length ≤ 40
      · rw [decide_eq_false (by omega)]
        refine Ev.step (fun k => by rw [spec_PlanOk.j0]) ?_
        refine Ev.neg (by simp) ?_
        have hh : headOk fr pa ws.length := ⟨c1, c2, c3⟩
        unfold planOk
        rw [decide_eq_true hh, Bool.true_and]
        exact spec_loop fr pa ws hh ws.length 0 0 (by omega) (by omega) (by omega)
      · rw [decide_eq_true (by omega)]
        refine stop ?_
        unfold planOk
        rw [decide_eq_false (fun h => c3 h.2.2)]; rfl
    · refine Ev.neg (by simpa using c2) ?_
      refine stop ?_
      unfold planOk
      rw [decide_eq_false (fun h => c2 h.2.1)]; rfl
  · refine Ev.neg (by simpa using c1) ?_
    refine stop ?_
    unfold planOk
    rw [decide_eq_false (fun h => c1 h.1)]; rfl

theorem impl_end (fr pa : Int) (ws : List S143) : ((impl_in.f fr 1 100000).bind fun t175 => (if t175 = true then ((impl_in.f pa 1 10).bind fun t176 => (if t176 = true then (some (decide ((ws.length : Int) ≤ 40))) else (some false))) else (some false))) = some (decide (headOk fr pa ws.length)) := by
  rw [in_im, in_im]
  by_cases c1 : 1 ≤ fr ∧ fr ≤ 100000
  · by_cases c2 : 1 ≤ pa ∧ pa ≤ 10
    · simp [c1, c2, headOk]; omega
    · simp [c1, c2, headOk]
  · simp [c1, headOk]

theorem impl_loop (fr pa : Int) (ws : List S143) (hl : ws.length ≤ 1048576) : ∀ m i e, i + m = ws.length → (headOk fr pa ws.length → 0 ≤ e ∧ e ≤ fr) →
    Ev (fun k => impl_PlanOk.l0 k e ws (ws.length : Int) (i : Int) fr pa ws) (decide (headOk fr pa ws.length) && okFrom fr pa e (ws.drop i)) := by
  intro m
  induction m with
  | zero =>
    intro i e hi h0
    refine Ev.step (fun k => by rw [impl_PlanOk.l0]) ?_
    refine Ev.neg (by omega) ?_
    rw [List.drop_eq_nil_of_le (by omega)]
    refine Ev.const ?_
    rw [impl_end]; simp [okFrom]
  | succ m ih =>
    intro i e hi h0
    have hil : i < ws.length := by omega
    rw [List.drop_eq_getElem_cons hil]
    refine Ev.step (fun k => by rw [impl_PlanOk.l0]) ?_
    refine Ev.pos (by omega) ?_
    refine Ev.pos (by omega) ?_
    refine Ev.pos (by omega) ?_
    rw [rd_at hil, w64 (x := (i : Int) + 1) (by omega) (by omega)]
    by_cases hh : headOk fr pa ws.length
    · obtain ⟨g0, g1⟩ := h0 hh
      have hh0 := hh
      obtain ⟨⟨f0, f1⟩, ⟨p0, p1⟩, hn⟩ := hh
      rw [decide_eq_true hh0, Bool.true_and] at *
      rw [w64 (x := pa - 1) (by omega) (by omega)]
      refine Ev.get (in_im _ _ _) ?_
      unfold okFrom
      by_cases c1 : 0 ≤ ws[i].f0 ∧ ws[i].f0 ≤ pa - 1
      · refine Ev.pos (decide_eq_true c1) ?_
        refine Ev.get (in_im _ _ _) ?_
        by_cases c2 : 1 ≤ ws[i].f2 ∧ ws[i].f2 ≤ 10000
        · refine Ev.pos (decide_eq_true c2) ?_
          rw [w64 (x := fr - ws[i].f2) (by omega) (by omega)]
          by_cases c3 : ws[i].f1 < e
          · refine Ev.pos c3 ?_
            rw [if_neg (by omega)]
            exact Ev.now _
          · refine Ev.neg c3 ?_
            by_cases c4 : ws[i].f1 > fr - ws[i].f2
            · refine Ev.pos c4 ?_
              rw [if_neg (by omega)]
              exact Ev.now _
            · refine Ev.neg c4 ?_
              rw [if_pos ⟨c1, c2, by omega⟩, w64 (x := ws[i].f1 + ws[i].f2) (by omega) (by omega)]
              have h := ih (i + 1) (ws[i].f1 + ws[i].f2) (by omega) (fun _ => by omega)
              rw [Bool.true_and] at h
              exact h
        · refine Ev.neg (by simpa using c2) ?_
          rw [if_neg (by omega)]
          exact Ev.now _
      · refine Ev.neg (by simpa using c1) ?_
        rw [if_neg (by omega)]
        exact Ev.now _
    · rw [decide_eq_false hh, Bool.false_and]
      have ih' : ∀ e, Ev (fun k => impl_PlanOk.l0 k e ws (ws.length : Int) ((i : Int) + 1) fr pa ws) false := by
        intro e
        have h := ih (i + 1) e (by omega) (fun h => absurd h hh)
        rw [decide_eq_false hh, Bool.false_and] at h
        exact h
      refine Ev.get (in_im _ _ _) ?_
      split
      · refine Ev.get (in_im _ _ _) ?_
        split
        · split
          · exact Ev.now _
          · split
            · exact Ev.now _
            · exact ih' _
        · exact Ev.now _
      · exact Ev.now _

theorem impl_ok (fr pa : Int) (ws : List S143) (hl : ws.length ≤ 1048576) : Ev (fun k => impl_PlanOk.f k fr pa ws) (planOk fr pa ws) := by
  exact impl_loop fr pa ws hl ws.length 0 0 (by omega) (fun h => ⟨by omega, by have := h.1.1; omega⟩)

theorem sz_ok (fr pa : Int) (l0 : List S224) (hs : l0.length ≤ 1048576) : laws_szPlan17.f fr pa l0 1048576 = some (1048576 - (l0.length : Int)) := by
  unfold laws_szPlan17.f laws_szWindowS.f
  rw [w64 (by omega) (by omega), if_neg (by omega), Option.bind_some, if_neg (by omega)]
theorem sz_no (fr pa : Int) (l0 : List S224) (hs : 1048576 < l0.length) (hl : l0.length ≤ 9223372036854775807) : laws_szPlan17.f fr pa l0 1048576 = some (-1) := by
  unfold laws_szPlan17.f laws_szWindowS.f
  rw [w64 (by omega) (by omega), if_pos (by omega), Option.bind_some, if_pos (by omega)]

def conv143 (x : S224) : S143 := ⟨x.f0, x.f1, x.f2⟩
theorem to_ok (fr pa : Int) (l0 : List S224) (hs : l0.length ≤ 1048576) : Ev (fun k => laws_toPlan17.f k fr pa l0) (fr, pa, l0.map conv143) := by
  refine Ev.bind (a := l0.map conv143) ?_ (Ev.now _)
  refine Ev.pos (by omega) ?_
  refine Ev.pos (by omega) ?_
  rw [Int.toNat_natCast, fill_start conv143 z143 l0]
  refine ev_up (g := fun k st i => laws_toWindowS.l0 k l0 st i) l0.length (fun i => (l0.take i).map conv143 ++ List.replicate (l0.length - i) z143) ?_ ?_ 0 (by omega)
  · intro i hi h
    refine Ev.step (fun k => by rw [laws_toWindowS.l0]) ?_
    refine Ev.pos (by omega) ?_
    refine Ev.pos (by omega) ?_
    refine Ev.get rfl ?_
    refine Ev.pos (by rw [fill_len _ _ _ _ (by omega)]; omega) ?_
    rw [rd_at' hi, w64 (by omega) (by omega), Int.toNat_natCast]
    have h1 := fill_set conv143 z143 l0 i hi
    rw [show (⟨l0[i].f0, l0[i].f1, l0[i].f2⟩ : S143) = conv143 l0[i] from rfl, h1]
    exact h
  · refine Ev.step (fun k => by rw [laws_toWindowS.l0]) ?_
    refine Ev.neg (by omega) ?_
    rw [fill_end]
    exact Ev.now _

theorem eq_refl (fr pa : Int) (ws : List S143) (hl : ws.length ≤ 1048577) : Ev (fun k => laws_eqPlan17.f k fr pa ws fr pa ws) true := by
  refine Ev.pos rfl ?_
  refine Ev.pos rfl ?_
  refine Ev.bind (a := true) ?_ (Ev.pos rfl (Ev.now _))
  refine Ev.pos rfl ?_
  refine ev_up (σ := Unit) (g := fun k _ i => laws_eqWindowS.l0 k ws ws i) ws.length (fun _ => ()) ?_ ?_ 0 (by omega)
  · intro i hi h
    refine Ev.step (fun k => by rw [laws_eqWindowS.l0]) ?_
    refine Ev.pos (by omega) ?_
    refine Ev.pos (by omega) ?_
    refine Ev.pos (by omega) ?_
    refine Ev.get (x := true) (by simp [laws_eqWindow.f]) ?_
    refine Ev.pos rfl ?_
    rw [w64 (by omega) (by omega)]
    exact h
  · refine Ev.step (fun k => by rw [laws_eqWindowS.l0]) ?_
    exact Ev.neg (by omega) (Ev.now _)
end Go.Proofs.Ytjgbjahpncfhhaa.PlanOk
