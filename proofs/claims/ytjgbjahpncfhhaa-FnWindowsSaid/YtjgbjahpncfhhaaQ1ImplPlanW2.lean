import Derived.Test.YtjgbjahpncfhhaaQ1PW2x
import Derived.Test.YtjgbjahpncfhhaaQ1PK
namespace Go.Proofs.Ytjgbjahpncfhhaa.PlanOk
open Go.RowKit Go.Proofs.YtjgbjahpncfhhaaW.PrintWords Go.Proofs.YtjgbjahpncfhhaaW.PrintLast Go.Proofs.YtjgbjahpncfhhaaW.PrintMore Go.Proofs.Ytjgbjahpncfhhaa.PK Go.Proofs.Ytjgbjahpncfhhaa.PW2
def okFrom (fr pa : Int) : Int → List S143 → Bool
  | _, [] => true
  | e, x :: t => if (0 ≤ x.f0 ∧ x.f0 ≤ pa - 1) ∧ (1 ≤ x.f2 ∧ x.f2 ≤ 10000) ∧ (e ≤ x.f1 ∧ x.f1 + x.f2 ≤ fr) then okFrom fr pa (x.f1 + x.f2) t else false
def headOk (fr pa : Int) (n : Nat) : Prop := (1 ≤ fr ∧ fr ≤ 100000) ∧ (1 ≤ pa ∧ pa ≤ 10) ∧ n ≤ 40
instance (fr pa : Int) (n : Nat) : Decidable (headOk fr pa n) := by unfold headOk; infer_instance
def planOk (fr pa : Int) (ws : List S143) : Bool := decide (headOk fr pa ws.length) && okFrom fr pa 0 ws
theorem planOk_iff {fr pa : Int} {ws : List S143} : planOk fr pa ws = true ↔ ((1 ≤ fr ∧ fr ≤ 100000) ∧ (1 ≤ pa ∧ pa ≤ 10) ∧ ws.length ≤ 40) ∧ okFrom fr pa 0 ws = true := by
  unfold planOk
  rw [Bool.and_eq_true, decide_eq_true_iff]
  exact Iff.rfl
theorem okFrom_cons {fr pa e : Int} {x : S143} {t : List S143} (h : okFrom fr pa e (x :: t) = true) :
    ((0 ≤ x.f0 ∧ x.f0 ≤ pa - 1) ∧ (1 ≤ x.f2 ∧ x.f2 ≤ 10000) ∧ (e ≤ x.f1 ∧ x.f1 + x.f2 ≤ fr)) ∧ okFrom fr pa (x.f1 + x.f2) t = true := by
  unfold okFrom at h
  split at h
  · exact ⟨by assumption, h⟩
  · cases h
theorem rd_at {xs : List S143} {i : Nat} (h : i < xs.length) : rd_T143 xs (i : Int) = xs[i] := getD_at h
theorem in_im (a b c : Int) : impl_in.f a b c = some (decide (b ≤ a ∧ a ≤ c)) := by
  unfold impl_in.f
  by_cases h : a ≥ b
  · rw [if_pos h]; simp [show b ≤ a from h]
  · rw [if_neg h]; simp [show ¬ b ≤ a from h]
theorem impl_end (fr pa : Int) (ws : List S143) : ((impl_in.f fr 1 100000).bind fun t175 => (if t175 = true then ((impl_in.f pa 1 10).bind fun t176 => (if t176 = true then (some (decide ((ws.length : Int) ≤ 40))) else (some false))) else (some false))) = some (decide (headOk fr pa ws.length)) := by
  rw [in_im, in_im]
  by_cases c1 : 1 ≤ fr ∧ fr ≤ 100000
  · by_cases c2 : 1 ≤ pa ∧ pa ≤ 10
    · simp [c1, c2, headOk]; omega
    · simp [c1, c2, headOk]
  · simp [c1, headOk]
theorem impl_loop (fr pa : Int) (ws : List S143) (hl : ws.length ≤ 1048576) : ∀ m i e, i + m = ws.length → (headOk fr pa ws.length → 0 ≤ e ∧ e ≤ fr) →
    Ev (fun k => impl_PlanOk.l0 k e ws (ws.length : Int) (i : Int) fr pa ws) (decide (headOk fr pa ws.length) && okFrom fr pa e (ws.drop i)) := by
  intro m
  induction m with
  | zero =>
    intro i e hi h0
    refine Ev.step (fun k => by rw [impl_PlanOk.l0]) ?_
    refine Ev.neg (by omega) ?_
    rw [List.drop_eq_nil_of_le (by omega)]
    refine Ev.const ?_
    rw [impl_end]; simp [okFrom]
  | succ m ih =>
    intro i e hi h0
    have hil : i < ws.length := by omega
    rw [List.drop_eq_getElem_cons hil]
    refine Ev.step (fun k => by rw [impl_PlanOk.l0]) ?_
    refine Ev.pos (by omega) ?_
    refine Ev.pos (by omega) ?_
    refine Ev.pos (by omega) ?_
    rw [rd_at hil, w64 (x := (i : Int) + 1) (by omega) (by omega)]
    by_cases hh : headOk fr pa ws.length
    · obtain ⟨g0, g1⟩ := h0 hh
      have hh0 := hh
      obtain ⟨⟨f0, f1⟩, ⟨p0, p1⟩, hn⟩ := hh
      rw [decide_eq_true hh0, Bool.true_and] at *
      rw [w64 (x := pa - 1) (by omega) (by omega)]
      refine Ev.get (in_im _ _ _) ?_
      unfold okFrom
      by_cases c1 : 0 ≤ ws[i].f0 ∧ ws[i].f0 ≤ pa - 1
      · refine Ev.pos (decide_eq_true c1) ?_
        refine Ev.get (in_im _ _ _) ?_
        by_cases c2 : 1 ≤ ws[i].f2 ∧ ws[i].f2 ≤ 10000
        · refine Ev.pos (decide_eq_true c2) ?_
          rw [w64 (x := fr - ws[i].f2) (by omega) (by omega)]
          by_cases c3 : ws[i].f1 < e
          · refine Ev.pos c3 ?_
            rw [if_neg (by omega)]
            exact Ev.now _
          · refine Ev.neg c3 ?_
            by_cases c4 : ws[i].f1 > fr - ws[i].f2
            · refine Ev.pos c4 ?_
              rw [if_neg (by omega)]
              exact Ev.now _
            · refine Ev.neg c4 ?_
              rw [if_pos ⟨c1, c2, by omega⟩, w64 (x := ws[i].f1 + ws[i].f2) (by omega) (by omega)]
              have h := ih (i + 1) (ws[i].f1 + ws[i].f2) (by omega) (fun _ => by omega)
              rw [Bool.true_and] at h
              exact h
        · refine Ev.neg (by simpa using c2) ?_
          rw [if_neg (by omega)]
          exact Ev.now _
      · refine Ev.neg (by simpa using c1) ?_
        rw [if_neg (by omega)]
        exact Ev.now _
    · rw [decide_eq_false hh, Bool.false_and]
      have ih' : ∀ e, Ev (fun k => impl_PlanOk.l0 k e ws (ws.length : Int) ((i : Int) + 1) fr pa ws) false := by
        intro e
        have h := ih (i + 1) e (by omega) (fun h => absurd h hh)
        rw [decide_eq_false hh, Bool.false_and] at h
        exact h
      refine Ev.get (in_im _ _ _) ?_
      split
      · refine Ev.get (in_im _ _ _) ?_
        split
        · split
          · exact Ev.now _
          · split
            · exact Ev.now _
            · exact ih' _
        · exact Ev.now _
      · exact Ev.now _
theorem impl_ok (fr pa : Int) (ws : List S143) (hl : ws.length ≤ 1048576) : Ev (fun k => impl_PlanOk.f k fr pa ws) (planOk fr pa ws) := by
  exact impl_loop fr pa ws hl ws.length 0 0 (by omega) (fun h => ⟨by omega, by have := h.1.1; omega⟩)
end Go.Proofs.Ytjgbjahpncfhhaa.PlanOk
