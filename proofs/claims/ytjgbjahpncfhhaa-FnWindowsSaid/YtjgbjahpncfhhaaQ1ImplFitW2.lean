import Derived.Test.YtjgbjahpncfhhaaQ1ImplPlanW2
namespace Go.Proofs.Ytjgbjahpncfhhaa.Fit
open Go.RowKit Go.Proofs.YtjgbjahpncfhhaaW.PrintWords Go.Proofs.YtjgbjahpncfhhaaW.PrintLast Go.Proofs.YtjgbjahpncfhhaaW.PrintMore Go.Proofs.Ytjgbjahpncfhhaa.HK Go.Proofs.Ytjgbjahpncfhhaa.PK Go.Proofs.Ytjgbjahpncfhhaa.PW2 Go.Proofs.Ytjgbjahpncfhhaa.PlanOk
def fitFrom (fr long : Int) : Int → List S143 → Nat → Option (Nat × Int)
  | e, [], i => if e + long ≤ fr then some (i, e) else none
  | e, x :: t, i => if e + long ≤ x.f1 then some (i, e) else fitFrom fr long (x.f1 + x.f2) t (i + 1)
def fitOut (fr pa : Int) (ws : List S143) (part long : Int) : Option (Nat × Int) → Int × Int × List S143 × Bool
  | none => (fr, pa, ws, false)
  | some (i, e) => (fr, pa, ws.take i ++ ⟨part, e, long⟩ :: ws.drop i, true)
theorem impl_put (fr pa part long e x11 : Int) (x40 : Int) (ws : List S143) (i : Nat) (hi : i ≤ ws.length) (hn : ws.length ≤ 40) (he : e + long ≤ x11) (h0 : 0 ≤ e) (h1 : e ≤ 200000) (hx : 0 ≤ x11) (hx1 : x11 ≤ 200000) :
    Ev (fun k => impl_FitWindow.j2 k part long e (i : Int) x11 x40 (i : Int) fr pa ws fr pa ws) (fr, pa, ws.take i ++ ⟨part, e, long⟩ :: ws.drop i, true) := by
  refine Ev.step (fun k => by rw [impl_FitWindow.j2]) ?_
  refine Ev.pos (by rw [w64 (by omega) (by omega)]; omega) ?_
  refine Ev.get (x := ws.take i ++ ⟨part, e, long⟩ :: ws.drop i) ?_ (Ev.now _)
  unfold insert_Window.f
  rw [if_pos ⟨by omega, by omega, rfl, by omega⟩]
  simp
theorem impl_fit (fr pa part long : Int) (ws : List S143) (hn : ws.length ≤ 40) (hf : fr ≤ 100000) (h2 : 1 ≤ long) (h3 : long ≤ 10000) :
    ∀ m i e, i + m = ws.length → 0 ≤ e → e ≤ fr → okFrom fr pa e (ws.drop i) = true →
    Ev (fun k => impl_FitWindow.l0 k part long e ((ws.length : Int) + 1) (i : Int) fr pa ws fr pa ws) (fitOut fr pa ws part long (fitFrom fr long e (ws.drop i) i)) := by
  intro m
  induction m with
  | zero =>
    intro i e hi h0 h1 hok
    have hil : i = ws.length := by omega
    subst hil
    refine Ev.step (fun k => by rw [impl_FitWindow.l0]) ?_
    refine Ev.pos (by omega) ?_
    refine Ev.neg (by omega) ?_
    rw [List.drop_length]
    unfold fitFrom
    by_cases c : e + long ≤ fr
    · rw [if_pos c]
      have h := impl_put fr pa part long e fr ((ws.length : Int) + 1) ws ws.length (Nat.le_refl _) hn c h0 (by omega) (by omega) (by omega)
      exact h
    · rw [if_neg c]
      refine Ev.step (fun k => by rw [impl_FitWindow.j2]) ?_
      refine Ev.neg (by rw [w64 (by omega) (by omega)]; omega) ?_
      refine Ev.neg (by omega) ?_
      refine Ev.step (fun k => by rw [impl_FitWindow.l0]) ?_
      refine Ev.neg (by rw [w64 (by omega) (by omega)]; omega) ?_
      exact Ev.now _
  | succ m ih =>
    intro i e hi h0 h1 hok
    have hil : i < ws.length := by omega
    have hd := List.drop_eq_getElem_cons hil
    rw [hd] at hok ⊢
    obtain ⟨b, hok'⟩ := okFrom_cons hok
    refine Ev.step (fun k => by rw [impl_FitWindow.l0]) ?_
    refine Ev.pos (by omega) ?_
    refine Ev.pos (by omega) ?_
    refine Ev.pos (by omega) ?_
    rw [rd_at hil]
    unfold fitFrom
    by_cases c : e + long ≤ ws[i].f1
    · rw [if_pos c]
      have h := impl_put fr pa part long e ws[i].f1 ((ws.length : Int) + 1) ws i (by omega) hn c h0 (by omega) (by omega) (by omega)
      exact h
    · rw [if_neg c]
      refine Ev.step (fun k => by rw [impl_FitWindow.j2]) ?_
      refine Ev.neg (by rw [w64 (by omega) (by omega)]; omega) ?_
      refine Ev.pos (by omega) ?_
      refine Ev.pos (by omega) ?_
      rw [rd_at hil, w64 (x := (i : Int) + 1) (by omega) (by omega), w64 (x := ws[i].f1 + ws[i].f2) (by omega) (by omega)]
      exact ih (i + 1) _ (by omega) (by omega) (by omega) hok'
def fitAll (fr pa : Int) (ws : List S143) (part long : Int) : Int × Int × List S143 × Bool :=
  if planOk fr pa ws = true ∧ ws.length < 40 ∧ (0 ≤ part ∧ part ≤ pa - 1) ∧ (1 ≤ long ∧ long ≤ 10000) then fitOut fr pa ws part long (fitFrom fr long 0 ws 0) else (fr, pa, ws, false)
theorem impl_all (fr pa part long : Int) (ws : List S143) (hl : ws.length ≤ 1048576) : Ev (fun k => impl_FitWindow.f k fr pa ws part long) (fitAll fr pa ws part long) := by
  refine Ev.get (x := (fr, pa, ws)) (by simp [impl_clonePlan.f, clone_Window.f, if_pos (show ws.length < 5864062014805 by omega)]) ?_
  refine Ev.bind (impl_ok fr pa ws hl) ?_
  have stop : ∀ {q}, q = (fr, pa, ws, false) → Ev (fun k => impl_FitWindow.j0 k part long true fr pa ws fr pa ws) q := by
    rintro _ rfl
    refine Ev.step (fun k => by rw [impl_FitWindow.j0]) ?_
    exact Ev.pos rfl (Ev.now _)
  by_cases c1 : planOk fr pa ws = true
  · obtain ⟨b, bo⟩ := planOk_iff.1 c1
    refine Ev.pos c1 ?_
    refine Ev.get (in_im _ _ _) ?_
    rw [w64 (by omega) (by omega)]
    by_cases c3 : 0 ≤ part ∧ part ≤ pa - 1
    · refine Ev.pos (decide_eq_true c3) ?_
      refine Ev.get (in_im _ _ _) ?_
      by_cases c4 : 1 ≤ long ∧ long ≤ 10000
      · refine Ev.pos (decide_eq_true c4) ?_
        by_cases c2 : ws.length = 40
        · rw [decide_eq_true (show (ws.length : Int) ≥ 40 by omega)]
          exact stop (if_neg (by omega))
        · rw [decide_eq_false (show ¬ (ws.length : Int) ≥ 40 by omega)]
          refine Ev.step (fun k => by rw [impl_FitWindow.j0]) ?_
          refine Ev.neg (by simp) ?_
          unfold fitAll
          rw [if_pos ⟨c1, by omega, c3, c4⟩, w64 (x := (ws.length : Int) + 1) (by omega) (by omega)]
          exact impl_fit fr pa part long ws (by omega) (by omega) (by omega) (by omega) ws.length 0 0 (by omega) (by omega) (by omega) bo
      · refine Ev.neg (by simpa using c4) ?_
        exact stop (if_neg (fun h => c4 h.2.2.2))
    · refine Ev.neg (by simpa using c3) ?_
      exact stop (if_neg (fun h => c3 h.2.2.1))
  · refine Ev.neg c1 ?_
    exact stop (if_neg (fun h => c1 h.1))
end Go.Proofs.Ytjgbjahpncfhhaa.Fit
