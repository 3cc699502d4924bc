/- FnExactShare: the plain statement. No conditions. -/
import Derived.Test.YtjgbjahpncfhhaaPS1sFnExactShare
import Derived.Test.YtjgbjahpncfhhaaPlanOkS1
namespace Go.Proofs.Ytjgbjahpncfhhaa.Pure
open Go.RowKit Go.Proofs.YtjgbjahpncfhhaaW.PrintWords Go.Proofs.YtjgbjahpncfhhaaW.PrintLast Go.Proofs.YtjgbjahpncfhhaaW.PrintMore Go.Proofs.Ytjgbjahpncfhhaa.HK Go.Proofs.Ytjgbjahpncfhhaa.PK Go.Proofs.Ytjgbjahpncfhhaa.PS1 Go.Proofs.Ytjgbjahpncfhhaa.PlanOk

/-- A window within its bounds. -/
def Bd (x : S143) : Prop := 0 ≤ x.f1 ∧ x.f1 ≤ 100000 ∧ 1 ≤ x.f2 ∧ x.f2 ≤ 10000
theorem okFrom_all (fr pa : Int) (hf : fr ≤ 100000) : ∀ (l : List S143) (e : Int), 0 ≤ e → okFrom fr pa e l = true → ∀ x ∈ l, Bd x
  | [], _, _, _, x, hx => by cases hx
  | y :: t, e, he, h, x, hx => by
    obtain ⟨b, h'⟩ := okFrom_cons h
    rcases List.mem_cons.1 hx with rfl | hx
    · exact ⟨by omega, by omega, by omega, by omega⟩
    · exact okFrom_all fr pa hf t _ (by omega) h' x hx

def gapS (c : Int) : Int → List S143 → Int
  | g, [] => g
  | g, [x] => mx g (c - x.f1 - x.f2)
  | g, x :: y :: t => gapS c (mx g (y.f1 - x.f1 - x.f2)) (y :: t)
def gapI : Int → Int → List S143 → Int
  | _, g, [] => g
  | e, g, x :: t => gapI (x.f1 + x.f2) (mx g (x.f1 - e)) t
def sumL : List S143 → Int
  | [] => 0
  | x :: t => x.f2 + sumL t

theorem mx_max (a b : Int) : mx a b = max a b := by unfold mx; split <;> omega
theorem gaps_eq (c : Int) : ∀ (t : List S143) (x : S143) (g d : Int), d = c - ((x :: t).getLast (by simp)).f1 - ((x :: t).getLast (by simp)).f2 → gapI (x.f1 + x.f2) (mx g d) t = gapS c g (x :: t)
  | [], x, g, d, hd => by simp only [List.getLast_singleton] at hd; rw [hd]; rfl
  | y :: t, x, g, d, hd => by
    have h := gaps_eq c t y (mx g (y.f1 - x.f1 - x.f2)) d (by rw [hd]; simp [List.getLast_cons])
    show gapI (y.f1 + y.f2) (mx (mx g d) (y.f1 - (x.f1 + x.f2))) t = gapS c (mx g (y.f1 - x.f1 - x.f2)) (y :: t)
    rw [← h]
    congr 1
    simp only [mx_max]; omega

theorem l1max (a b : Int) : spec_l1Max.f a b = some (mx a b) := by
  unfold spec_l1Max.f
  by_cases h : a > b
  · rw [if_pos h]; unfold mx; rw [if_neg (by omega)]
  · rw [if_neg h]; unfold mx
    by_cases h2 : a < b
    · rw [if_pos h2]
    · rw [if_neg h2]; congr 1; omega

def shareOut (fr : Int) (mine : List S143) (sum : Int) : Int × Int × Bool :=
  match mine with
  | [] => (0, fr, true)
  | a :: t => (sum, gapS (a.f1 + fr) 0 (a :: t), true)

theorem spec_gap (fr pa : Int) (ws : List S143) (a : S143) (t : List S143) (sum : Int) (hf : 0 ≤ fr) (hf1 : fr ≤ 100000) (hn : (a :: t).length ≤ 40) (hb : ∀ x ∈ a :: t, Bd x) :
    ∀ m i g, i + m = (a :: t).length → Ev (fun k => spec_Share.l1 k (a :: t) sum g (i : Int) fr pa ws) (sum, gapS (a.f1 + fr) g ((a :: t).drop i), true) := by
  have hba := hb a List.mem_cons_self
  intro m
  induction m with
  | zero =>
    intro i g hi
    refine Ev.step (fun k => by rw [spec_Share.l1]) ?_
    refine Ev.neg (by omega) ?_
    rw [List.drop_eq_nil_of_le (by omega)]
    exact Ev.now _
  | succ m ih =>
    intro i g hi
    have hil : i < (a :: t).length := by omega
    have hbi := hb _ (List.getElem_mem hil)
    obtain ⟨b0, b1, b2, b3⟩ := hbi
    obtain ⟨d0, d1, d2, d3⟩ := hba
    refine Ev.step (fun k => by rw [spec_Share.l1]) ?_
    refine Ev.pos (by omega) ?_
    refine Ev.pos (by simp) ?_
    have hw : wrap64 ((i : Int) + 1) = ((i + 1 : Nat) : Int) := w64 (by omega) (by omega)
    rw [hw, List.drop_eq_getElem_cons hil]
    by_cases hlast : i + 1 < (a :: t).length
    · have hbj := hb _ (List.getElem_mem hlast)
      obtain ⟨e0, e1, e2, e3⟩ := hbj
      refine Ev.pos (by omega) ?_
      refine Ev.pos (by omega) ?_
      refine Ev.pos (by omega) ?_
      rw [rd_at hil, rd_at hlast, w64 (x := (a :: t)[i + 1].f1 - (a :: t)[i].f1) (by omega) (by omega), w64 (by omega) (by omega)]
      refine Ev.get (l1max _ _) ?_
      rw [List.drop_eq_getElem_cons hlast]
      have h := ih (i + 1) (mx g ((a :: t)[i + 1].f1 - (a :: t)[i].f1 - (a :: t)[i].f2)) (by omega)
      rw [List.drop_eq_getElem_cons hlast] at h
      exact h
    · refine Ev.neg (by omega) ?_
      refine Ev.pos (by omega) ?_
      have h0 : rd_T143 (a :: t) 0 = a := rfl
      rw [rd_at hil, h0, w64 (x := a.f1 + fr) (by omega) (by omega), w64 (x := a.f1 + fr - (a :: t)[i].f1) (by omega) (by omega), w64 (by omega) (by omega)]
      refine Ev.get (l1max _ _) ?_
      have h := ih (i + 1) (mx g (a.f1 + fr - (a :: t)[i].f1 - (a :: t)[i].f2)) (by omega)
      rw [List.drop_eq_nil_of_le (by omega)] at h ⊢
      exact h

theorem sum_filter_le (q : S143 → Bool) : ∀ (l : List S143), (∀ x ∈ l, Bd x) → 0 ≤ sumL (l.filter q) ∧ sumL (l.filter q) ≤ 10000 * (l.length : Int)
  | [], _ => by simp [sumL]
  | x :: t, h => by
    obtain ⟨i1, i2⟩ := sum_filter_le q t (fun y hy => h y (List.mem_cons_of_mem _ hy))
    obtain ⟨b0, b1, b2, b3⟩ := h x List.mem_cons_self
    rw [List.filter_cons, List.length_cons]
    split
    · show 0 ≤ x.f2 + sumL _ ∧ x.f2 + sumL _ ≤ _
      omega
    · omega

theorem spec_mine (fr pa part : Int) (ws : List S143) (hf : 0 ≤ fr) (hf1 : fr ≤ 100000) (hn : ws.length ≤ 40) (hb : ∀ x ∈ ws, Bd x) :
    ∀ m i acc sum, i + m = ws.length → acc.length ≤ i → (∀ x ∈ acc, Bd x) → 0 ≤ sum → sum ≤ 10000 * (i : Int) →
    Ev (fun k => spec_Share.l0 k part acc sum (i : Int) fr pa ws) (shareOut fr (acc ++ (ws.drop i).filter (fun x => decide (x.f0 = part))) (sum + sumL ((ws.drop i).filter (fun x => decide (x.f0 = part))))) := by
  intro m
  induction m with
  | zero =>
    intro i acc sum hi ha hba h0 h1
    refine Ev.step (fun k => by rw [spec_Share.l0]) ?_
    refine Ev.neg (by omega) ?_
    rw [List.drop_eq_nil_of_le (by omega), List.filter_nil, List.append_nil]
    cases acc with
    | nil => exact Ev.pos rfl (Ev.now _)
    | cons a t =>
      refine Ev.neg (by simp; omega) ?_
      have h := spec_gap fr pa ws a t sum hf hf1 (by omega) hba (a :: t).length 0 0 (by omega)
      rw [show sum + sumL [] = sum from by show sum + 0 = sum; omega]
      exact h
  | succ m ih =>
    intro i acc sum hi ha hba h0 h1
    have hil : i < ws.length := by omega
    have hbi := hb _ (List.getElem_mem hil)
    obtain ⟨b0, b1, b2, b3⟩ := hbi
    refine Ev.step (fun k => by rw [spec_Share.l0]) ?_
    refine Ev.pos (by omega) ?_
    refine Ev.pos (by omega) ?_
    rw [rd_at hil, w64 (x := (i : Int) + 1) (by omega) (by omega), List.drop_eq_getElem_cons hil]
    by_cases c : ws[i].f0 = part
    · refine Ev.pos c ?_
      refine Ev.pos (by omega) ?_
      rw [List.filter_cons_of_pos (by simpa using c), w64 (x := sum + ws[i].f2) (by omega) (by omega)]
      have h := ih (i + 1) (acc ++ [ws[i]]) (sum + ws[i].f2) (by omega) (by simp; omega) (by
        intro x hx
        rcases List.mem_append.1 hx with hx | hx
        · exact hba x hx
        · rw [List.mem_singleton.1 hx]; exact ⟨b0, b1, b2, b3⟩) (by omega) (by omega)
      rw [List.append_assoc, Int.add_assoc] at h
      exact h
    · refine Ev.neg c ?_
      rw [List.filter_cons_of_neg (by simpa using c)]
      exact ih (i + 1) acc sum (by omega) (by omega) hba h0 (by omega)

theorem impl_gap (mine : List S143) (hn : mine.length ≤ 40) (hb : ∀ x ∈ mine, Bd x) :
    ∀ m i all e g, i + m = mine.length → 0 ≤ all → all ≤ 10000 * (i : Int) → -200000 ≤ e → e ≤ 200000 →
    Ev (fun k => impl_Share.l0 k all e g mine (mine.length : Int) (i : Int)) (all + sumL (mine.drop i), gapI e g (mine.drop i), true) := by
  intro m
  induction m with
  | zero =>
    intro i all e g hi h0 h1 h2 h3
    refine Ev.step (fun k => by rw [impl_Share.l0]) ?_
    refine Ev.neg (by omega) ?_
    rw [List.drop_eq_nil_of_le (by omega), show all + sumL [] = all from by show all + 0 = all; omega]
    exact Ev.now _
  | succ m ih =>
    intro i all e g hi h0 h1 h2 h3
    have hil : i < mine.length := by omega
    have hbi := hb _ (List.getElem_mem hil)
    obtain ⟨b0, b1, b2, b3⟩ := hbi
    refine Ev.step (fun k => by rw [impl_Share.l0]) ?_
    refine Ev.pos (by omega) ?_
    refine Ev.pos (by omega) ?_
    refine Ev.pos (by omega) ?_
    rw [rd_at hil, w64 (x := (i : Int) + 1) (by omega) (by omega), w64 (x := all + mine[i].f2) (by omega) (by omega), w64 (x := mine[i].f1 + mine[i].f2) (by omega) (by omega), w64 (x := mine[i].f1 - e) (by omega) (by omega), List.drop_eq_getElem_cons hil]
    have h := ih (i + 1) (all + mine[i].f2) (mine[i].f1 + mine[i].f2) (mx g (mine[i].f1 - e)) (by omega) (by omega) (by omega) (by omega) (by omega)
    rw [Int.add_assoc] at h
    exact h

def mineOf (part : Int) (ws : List S143) : List S143 := ws.filter (fun x => decide (x.f0 = part))
theorem impl_out (fr : Int) (mine : List S143) (hf : 1 ≤ fr) (hf1 : fr ≤ 100000) (hn : mine.length ≤ 40) (hb : ∀ x ∈ mine, Bd x) (a : S143) (t : List S143) (hm : mine = a :: t) :
    Ev (fun k => impl_Share.l0 k 0 (wrap64 ((wrap64 (((rd_T143 mine (wrap64 ((mine.length : Int) - 1))).f1) + ((rd_T143 mine (wrap64 ((mine.length : Int) - 1))).f2))) - fr)) 0 mine (mine.length : Int) 0) (shareOut fr mine (sumL mine)) := by
  have hpos : 0 < mine.length := by rw [hm]; simp
  have hl : wrap64 ((mine.length : Int) - 1) = ((mine.length - 1 : Nat) : Int) := by rw [w64 (by omega) (by omega)]; omega
  have hil : mine.length - 1 < mine.length := by omega
  obtain ⟨b0, b1, b2, b3⟩ := hb _ (List.getElem_mem hil)
  rw [hl, rd_at hil, w64 (x := mine[mine.length - 1].f1 + mine[mine.length - 1].f2) (by omega) (by omega), w64 (by omega) (by omega)]
  have h := impl_gap mine hn hb mine.length 0 0 (mine[mine.length - 1].f1 + mine[mine.length - 1].f2 - fr) 0 (by omega) (by omega) (by omega) (by omega) (by omega)
  rw [List.drop_zero, Int.zero_add] at h
  have hlast : mine[mine.length - 1] = (a :: t).getLast (by simp) := by
    subst hm; exact (List.getLast_eq_getElem (by simp)).symm
  have hs : shareOut fr mine (sumL mine) = (sumL mine, gapI (mine[mine.length - 1].f1 + mine[mine.length - 1].f2 - fr) 0 mine, true) := by
    rw [hlast]; subst hm
    show (sumL (a :: t), gapS (a.f1 + fr) 0 (a :: t), true) = (sumL (a :: t), gapI (a.f1 + a.f2) (mx 0 (a.f1 - (((a :: t).getLast (by simp)).f1 + ((a :: t).getLast (by simp)).f2 - fr))) t, true)
    rw [gaps_eq (a.f1 + fr) t a 0 _ (by omega)]
  rw [hs]
  exact h

def shareAll (fr pa : Int) (ws : List S143) (part : Int) : Int × Int × Bool :=
  if planOk fr pa ws = true ∧ (0 ≤ part ∧ part ≤ pa - 1) then shareOut fr (mineOf part ws) (sumL (mineOf part ws)) else (0, 0, false)

theorem spec_all (fr pa part : Int) (ws : List S143) (hl : ws.length ≤ 1048576) : Ev (fun k => spec_Share.f k fr pa ws part) (shareAll fr pa ws part) := by
  refine Ev.bind (spec_ok fr pa ws hl) ?_
  have stop : ∀ {q}, q = (0, 0, false) → Ev (fun k => spec_Share.j0 k part true fr pa ws) q := by
    rintro _ rfl
    refine Ev.step (fun k => by rw [spec_Share.j0]) ?_
    exact Ev.pos rfl (Ev.now _)
  by_cases c1 : planOk fr pa ws = true
  · obtain ⟨b, bo⟩ := planOk_iff.1 c1
    refine Ev.pos c1 ?_
    refine Ev.get (in_l1 _ _ _) ?_
    rw [w64 (by omega) (by omega)]
    by_cases c3 : 0 ≤ part ∧ part ≤ pa - 1
    · rw [decide_eq_true c3]
      refine Ev.step (fun k => by rw [spec_Share.j0]) ?_
      refine Ev.neg (by simp) ?_
      unfold shareAll
      rw [if_pos ⟨c1, c3⟩]
      have h := spec_mine fr pa part ws (by omega) (by omega) (by omega) (okFrom_all fr pa (by omega) ws 0 (by omega) bo) ws.length 0 [] 0 (by omega) (by simp) (by simp) (by omega) (by omega)
      rw [List.nil_append, List.drop_zero, Int.zero_add] at h
      exact h
    · rw [decide_eq_false c3]
      exact stop (if_neg (fun h => c3 h.2))
  · refine Ev.neg c1 ?_
    exact stop (if_neg (fun h => c1 h.1))

theorem impl_all (fr pa part : Int) (ws : List S143) (hl : ws.length ≤ 1048576) : Ev (fun k => impl_Share.f k fr pa ws part) (shareAll fr pa ws part) := by
  refine Ev.bind (impl_ok fr pa ws hl) ?_
  have stop : ∀ {q}, q = (0, 0, false) → Ev (fun k => impl_Share.j0 k true fr pa ws part) q := by
    rintro _ rfl
    refine Ev.step (fun k => by rw [impl_Share.j0]) ?_
    exact Ev.pos rfl (Ev.now _)
  by_cases c1 : planOk fr pa ws = true
  · obtain ⟨b, bo⟩ := planOk_iff.1 c1
    refine Ev.pos c1 ?_
    refine Ev.get (in_im _ _ _) ?_
    rw [w64 (by omega) (by omega)]
    by_cases c3 : 0 ≤ part ∧ part ≤ pa - 1
    · rw [decide_eq_true c3]
      refine Ev.step (fun k => by rw [impl_Share.j0]) ?_
      refine Ev.neg (by simp) ?_
      unfold shareAll
      rw [if_pos ⟨c1, c3⟩]
      refine Ev.get (x := ws) (by unfold clone_Window.f; rw [if_pos (by omega)]) ?_
      refine Ev.get (x := mineOf part ws) (by unfold delete_Window.f mineOf delete_Window.p; simp) ?_
      have hbm : ∀ x ∈ mineOf part ws, Bd x := fun x hx => okFrom_all fr pa (by omega) ws 0 (by omega) bo x (List.mem_filter.1 hx).1
      have hnm : (mineOf part ws).length ≤ 40 := Nat.le_trans (List.length_filter_le _ _) (by omega)
      generalize mineOf part ws = mine at hbm hnm
      cases hm : mine with
      | nil => exact Ev.pos rfl (Ev.now _)
      | cons a t =>
        rw [← hm]
        have hpos : 0 < mine.length := by rw [hm]; simp
        refine Ev.neg (by omega) ?_
        refine Ev.pos (by rw [w64 (by omega) (by omega)]; omega) ?_
        refine Ev.pos (by rw [w64 (by omega) (by omega)]; omega) ?_
        exact impl_out fr mine (by omega) (by omega) hnm hbm a t hm
    · rw [decide_eq_false c3]
      exact stop (if_neg (fun h => c3 h.2))
  · refine Ev.neg c1 ?_
    exact stop (if_neg (fun h => c1 h.1))

theorem FnExactShare : laws_FnExactShare.Pure := by
  intro x0 part hw w1
  obtain ⟨fr, pa, l0⟩ := x0
  have hlen : l0.length ≤ 9223372036854775807 := hw.2.2.1
  refine Ev.rounds ?_
  by_cases hs : l0.length ≤ 1048576
  · refine Ev.get (sz_ok fr pa l0 hs) ?_
    refine Ev.neg (by omega) ?_
    have hl : (l0.map conv143).length ≤ 1048576 := by simpa using hs
    have hto := to_ok fr pa l0 hs
    generalize l0.map conv143 = ws at hl hto
    refine Ev.bind hto ?_
    refine Ev.bind (spec_all fr pa part ws hl) ?_
    refine Ev.bind hto ?_
    refine Ev.bind (impl_all fr pa part ws hl) ?_
    refine Ev.pos rfl ?_
    refine Ev.pos rfl ?_
    refine Ev.step (fun k => by rw [laws_FnExactShare.j0]) ?_
    refine Ev.neg (by simp) ?_
    refine Ev.bind hto ?_
    refine Ev.bind (eq_refl fr pa ws (by omega)) ?_
    exact Ev.pos rfl (Ev.now _)
  · refine Ev.get (sz_no fr pa l0 (by omega) hlen) ?_
    exact Ev.pos (by omega) (Ev.now _)
end Go.Proofs.Ytjgbjahpncfhhaa.Pure
