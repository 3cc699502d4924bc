import Derived.Test.YtjgbjahpncfhhaaQ1ImplPlanW2
namespace Go.Proofs.Ytjgbjahpncfhhaa.Share
open Go.RowKit Go.Proofs.YtjgbjahpncfhhaaW.PrintWords Go.Proofs.YtjgbjahpncfhhaaW.PrintLast Go.Proofs.YtjgbjahpncfhhaaW.PrintMore Go.Proofs.Ytjgbjahpncfhhaa.HK Go.Proofs.Ytjgbjahpncfhhaa.PK Go.Proofs.Ytjgbjahpncfhhaa.PW2 Go.Proofs.Ytjgbjahpncfhhaa.PlanOk
def Bd (x : S143) : Prop := 0 ≤ x.f1 ∧ x.f1 ≤ 100000 ∧ 1 ≤ x.f2 ∧ x.f2 ≤ 10000
theorem okFrom_all (fr pa : Int) (hf : fr ≤ 100000) : ∀ (l : List S143) (e : Int), 0 ≤ e → okFrom fr pa e l = true → ∀ x ∈ l, Bd x
  | [], _, _, _, x, hx => by cases hx
  | y :: t, e, he, h, x, hx => by
    obtain ⟨b, h'⟩ := okFrom_cons h
    rcases List.mem_cons.1 hx with rfl | hx
    · exact ⟨by omega, by omega, by omega, by omega⟩
    · exact okFrom_all fr pa hf t _ (by omega) h' x hx
def gapS (c : Int) : Int → List S143 → Int
  | g, [] => g
  | g, [x] => mx g (c - x.f1 - x.f2)
  | g, x :: y :: t => gapS c (mx g (y.f1 - x.f1 - x.f2)) (y :: t)
def gapI : Int → Int → List S143 → Int
  | _, g, [] => g
  | e, g, x :: t => gapI (x.f1 + x.f2) (mx g (x.f1 - e)) t
def sumL : List S143 → Int
  | [] => 0
  | x :: t => x.f2 + sumL t
theorem mx_max (a b : Int) : mx a b = max a b := by unfold mx; split <;> omega
theorem gaps_eq (c : Int) : ∀ (t : List S143) (x : S143) (g d : Int), d = c - ((x :: t).getLast (by simp)).f1 - ((x :: t).getLast (by simp)).f2 → gapI (x.f1 + x.f2) (mx g d) t = gapS c g (x :: t)
  | [], x, g, d, hd => by simp only [List.getLast_singleton] at hd; rw [hd]; rfl
  | y :: t, x, g, d, hd => by
    have h := gaps_eq c t y (mx g (y.f1 - x.f1 - x.f2)) d (by rw [hd]; simp [List.getLast_cons])
    show gapI (y.f1 + y.f2) (mx (mx g d) (y.f1 - (x.f1 + x.f2))) t = gapS c (mx g (y.f1 - x.f1 - x.f2)) (y :: t)
    rw [← h]
    congr 1
    simp only [mx_max]; omega
def shareOut (fr : Int) (mine : List S143) (sum : Int) : Int × Int × Bool :=
  match mine with
  | [] => (0, fr, true)
  | a :: t => (sum, gapS (a.f1 + fr) 0 (a :: t), true)
theorem impl_gap (mine : List S143) (hn : mine.length ≤ 40) (hb : ∀ x ∈ mine, Bd x) :
    ∀ m i all e g, i + m = mine.length → 0 ≤ all → all ≤ 10000 * (i : Int) → -200000 ≤ e → e ≤ 200000 →
    Ev (fun k => impl_Share.l0 k all e g mine (mine.length : Int) (i : Int)) (all + sumL (mine.drop i), gapI e g (mine.drop i), true) := by
  intro m
  induction m with
  | zero =>
    intro i all e g hi h0 h1 h2 h3
    refine Ev.step (fun k => by rw [impl_Share.l0]) ?_
    refine Ev.neg (by omega) ?_
    rw [List.drop_eq_nil_of_le (by omega), show all + sumL [] = all from by show all + 0 = all; omega]
    exact Ev.now _
  | succ m ih =>
    intro i all e g hi h0 h1 h2 h3
    have hil : i < mine.length := by omega
    have hbi := hb _ (List.getElem_mem hil)
    obtain ⟨b0, b1, b2, b3⟩ := hbi
    refine Ev.step (fun k => by rw [impl_Share.l0]) ?_
    refine Ev.pos (by omega) ?_
    refine Ev.pos (by omega) ?_
    refine Ev.pos (by omega) ?_
    rw [rd_at hil, w64 (x := (i : Int) + 1) (by omega) (by omega), w64 (x := all + mine[i].f2) (by omega) (by omega), w64 (x := mine[i].f1 + mine[i].f2) (by omega) (by omega), w64 (x := mine[i].f1 - e) (by omega) (by omega), List.drop_eq_getElem_cons hil]
    have h := ih (i + 1) (all + mine[i].f2) (mine[i].f1 + mine[i].f2) (mx g (mine[i].f1 - e)) (by omega) (by omega) (by omega) (by omega) (by omega)
    rw [Int.add_assoc] at h
    exact h
def mineOf (part : Int) (ws : List S143) : List S143 := ws.filter (fun x => decide (x.f0 = part))
theorem impl_out (fr : Int) (mine : List S143) (hf : 1 ≤ fr) (hf1 : fr ≤ 100000) (hn : mine.length ≤ 40) (hb : ∀ x ∈ mine, Bd x) (a : S143) (t : List S143) (hm : mine = a :: t) :
    Ev (fun k => impl_Share.l0 k 0 (wrap64 ((wrap64 (((rd_T143 mine (wrap64 ((mine.length : Int) - 1))).f1) + ((rd_T143 mine (wrap64 ((mine.length : Int) - 1))).f2))) - fr)) 0 mine (mine.length : Int) 0) (shareOut fr mine (sumL mine)) := by
  have hpos : 0 < mine.length := by rw [hm]; simp
  have hl : wrap64 ((mine.length : Int) - 1) = ((mine.length - 1 : Nat) : Int) := by rw [w64 (by omega) (by omega)]; omega
  have hil : mine.length - 1 < mine.length := by omega
  obtain ⟨b0, b1, b2, b3⟩ := hb _ (List.getElem_mem hil)
  rw [hl, rd_at hil, w64 (x := mine[mine.length - 1].f1 + mine[mine.length - 1].f2) (by omega) (by omega), w64 (by omega) (by omega)]
  have h := impl_gap mine hn hb mine.length 0 0 (mine[mine.length - 1].f1 + mine[mine.length - 1].f2 - fr) 0 (by omega) (by omega) (by omega) (by omega) (by omega)
  rw [List.drop_zero, Int.zero_add] at h
  have hlast : mine[mine.length - 1] = (a :: t).getLast (by simp) := by
    subst hm; exact (List.getLast_eq_getElem (by simp)).symm
  have hs : shareOut fr mine (sumL mine) = (sumL mine, gapI (mine[mine.length - 1].f1 + mine[mine.length - 1].f2 - fr) 0 mine, true) := by
    rw [hlast]; subst hm
    show (sumL (a :: t), gapS (a.f1 + fr) 0 (a :: t), true) = (sumL (a :: t), gapI (a.f1 + a.f2) (mx 0 (a.f1 - (((a :: t).getLast (by simp)).f1 + ((a :: t).getLast (by simp)).f2 - fr))) t, true)
    rw [gaps_eq (a.f1 + fr) t a 0 _ (by omega)]
  rw [hs]
  exact h
def shareAll (fr pa : Int) (ws : List S143) (part : Int) : Int × Int × Bool :=
  if planOk fr pa ws = true ∧ (0 ≤ part ∧ part ≤ pa - 1) then shareOut fr (mineOf part ws) (sumL (mineOf part ws)) else (0, 0, false)
theorem impl_all (fr pa part : Int) (ws : List S143) (hl : ws.length ≤ 1048576) : Ev (fun k => impl_Share.f k fr pa ws part) (shareAll fr pa ws part) := by
  refine Ev.bind (impl_ok fr pa ws hl) ?_
  have stop : ∀ {q}, q = (0, 0, false) → Ev (fun k => impl_Share.j0 k true fr pa ws part) q := by
    rintro _ rfl
    refine Ev.step (fun k => by rw [impl_Share.j0]) ?_
    exact Ev.pos rfl (Ev.now _)
  by_cases c1 : planOk fr pa ws = true
  · obtain ⟨b, bo⟩ := planOk_iff.1 c1
    refine Ev.pos c1 ?_
    refine Ev.get (in_im _ _ _) ?_
    rw [w64 (by omega) (by omega)]
    by_cases c3 : 0 ≤ part ∧ part ≤ pa - 1
    · rw [decide_eq_true c3]
      refine Ev.step (fun k => by rw [impl_Share.j0]) ?_
      refine Ev.neg (by simp) ?_
      unfold shareAll
      rw [if_pos ⟨c1, c3⟩]
      refine Ev.get (x := ws) (by unfold clone_Window.f; rw [if_pos (by omega)]) ?_
      refine Ev.get (x := mineOf part ws) (by unfold delete_Window.f mineOf delete_Window.p; simp) ?_
      have hbm : ∀ x ∈ mineOf part ws, Bd x := fun x hx => okFrom_all fr pa (by omega) ws 0 (by omega) bo x (List.mem_filter.1 hx).1
      have hnm : (mineOf part ws).length ≤ 40 := Nat.le_trans (List.length_filter_le _ _) (by omega)
      generalize mineOf part ws = mine at hbm hnm
      cases hm : mine with
      | nil => exact Ev.pos rfl (Ev.now _)
      | cons a t =>
        rw [← hm]
        have hpos : 0 < mine.length := by rw [hm]; simp
        refine Ev.neg (by omega) ?_
        refine Ev.pos (by rw [w64 (by omega) (by omega)]; omega) ?_
        refine Ev.pos (by rw [w64 (by omega) (by omega)]; omega) ?_
        exact impl_out fr mine (by omega) (by omega) hnm hbm a t hm
    · rw [decide_eq_false c3]
      exact stop (if_neg (fun h => c3 h.2))
  · refine Ev.neg c1 ?_
    exact stop (if_neg (fun h => c1 h.1))
end Go.Proofs.Ytjgbjahpncfhhaa.Share
