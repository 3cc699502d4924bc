import Derived.Test.YtjgbjahpncfhhaaQ1WinDrawW2
import Derived.Test.YtjgbjahpncfhhaaQ1ImplShareW2
import Derived.Test.YtjgbjahpncfhhaaQ1ImplFitW2
namespace Go.Proofs.Ytjgbjahpncfhhaa.WinCount
open Go.RowKit Go.Proofs.YtjgbjahpncfhhaaW.PrintWords Go.Proofs.YtjgbjahpncfhhaaW.PrintLast Go.Proofs.YtjgbjahpncfhhaaW.PrintMore Go.Proofs.Ytjgbjahpncfhhaa.PK Go.Proofs.Ytjgbjahpncfhhaa.PW2 Go.Proofs.Ytjgbjahpncfhhaa.PlanOk Go.Proofs.Ytjgbjahpncfhhaa.WinDraw Go.Proofs.Ytjgbjahpncfhhaa.Share
def own (t : Int) : List S143 → Int
  | [] => -1
  | x :: l => if x.f1 ≤ t ∧ t < x.f1 + x.f2 then x.f0 else own t l
theorem own_early (fr pa : Int) : ∀ (l : List S143) (e t : Int), okFrom fr pa e l = true → t < e → own t l = -1
  | [], _, _, _, _ => rfl
  | x :: l, e, t, h, ht => by
    obtain ⟨b, h'⟩ := okFrom_cons h
    unfold own
    rw [if_neg (by omega)]
    exact own_early fr pa l _ t h' (by omega)
theorem own_range (fr pa : Int) (hp : 1 ≤ pa) : ∀ (l : List S143) (e t : Int), okFrom fr pa e l = true → -1 ≤ own t l ∧ own t l ≤ pa - 1
  | [], _, _, _ => by show -1 ≤ (-1 : Int) ∧ (-1 : Int) ≤ pa - 1; omega
  | x :: l, e, t, h => by
    obtain ⟨b, h'⟩ := okFrom_cons h
    unfold own
    split
    · omega
    · exact own_range fr pa hp l _ t h'
def cnt (f : Int → Int) (q : Int → Bool) (a : Int) : Nat → Int
  | 0 => 0
  | n + 1 => cnt f q a n + (if q (f (a + (n : Int))) = true then 1 else 0)
theorem cnt_add (f : Int → Int) (q : Int → Bool) (a : Int) (m : Nat) : ∀ n : Nat, cnt f q a (m + n) = cnt f q a m + cnt f q (a + (m : Int)) n
  | 0 => by show cnt f q a m = cnt f q a m + 0; omega
  | n + 1 => by
    show cnt f q a (m + n) + (if q (f (a + ((m + n : Nat) : Int))) = true then 1 else 0) = cnt f q a m + (cnt f q (a + (m : Int)) n + (if q (f (a + (m : Int) + (n : Int))) = true then 1 else 0))
    rw [cnt_add f q a m n, show a + ((m + n : Nat) : Int) = a + (m : Int) + (n : Int) by omega]
    omega
theorem cnt_congr (f g : Int → Int) (q : Int → Bool) (a : Int) : ∀ n : Nat, (∀ i : Nat, i < n → f (a + (i : Int)) = g (a + (i : Int))) → cnt f q a n = cnt g q a n
  | 0, _ => rfl
  | n + 1, h => by
    show cnt f q a n + _ = cnt g q a n + _
    rw [cnt_congr f g q a n (fun i hi => h i (by omega)), h n (by omega)]
theorem cnt_const (c : Int) (q : Int → Bool) (a : Int) : ∀ n : Nat, cnt (fun _ => c) q a n = if q c = true then (n : Int) else 0
  | 0 => by show (0 : Int) = _; split <;> rfl
  | n + 1 => by
    show cnt (fun _ => c) q a n + (if q c = true then 1 else 0) = _
    rw [cnt_const c q a n]
    split <;> omega
theorem cnt_nonneg (f : Int → Int) (q : Int → Bool) (a : Int) : ∀ n : Nat, 0 ≤ cnt f q a n
  | 0 => Int.le_refl _
  | n + 1 => by
    have := cnt_nonneg f q a n
    show 0 ≤ cnt f q a n + _
    split <;> omega
theorem cnt_own (fr pa : Int) (q : Int → Bool) (hq : q (-1) = false) : ∀ (l : List S143) (e : Int), e ≤ fr → okFrom fr pa e l = true →
    cnt (fun t => own t l) q e (fr - e).toNat = sumL (l.filter (fun x => q x.f0))
  | [], e, he, _ => by
    show cnt (fun _ => -1) q e _ = 0
    rw [cnt_const, hq]; rfl
  | x :: l, e, he, h => by
    obtain ⟨b, h'⟩ := okFrom_cons h
    have h1 : (fr - e).toNat = (x.f1 - e).toNat + (x.f2.toNat + (fr - (x.f1 + x.f2)).toNat) := by omega
    rw [h1, cnt_add, cnt_add]
    have e1 : e + (((x.f1 - e).toNat : Nat) : Int) = x.f1 := by omega
    have e2 : x.f1 + ((x.f2.toNat : Nat) : Int) = x.f1 + x.f2 := by omega
    rw [e1, e2]
    have c1 : cnt (fun t => own t (x :: l)) q e (x.f1 - e).toNat = 0 := by
      rw [cnt_congr _ (fun _ => -1) q e _ (fun i hi => by
        show own _ (x :: l) = -1
        unfold own
        rw [if_neg (by omega)]
        exact own_early fr pa l _ _ h' (by omega)), cnt_const, hq]; rfl
    have c2 : cnt (fun t => own t (x :: l)) q x.f1 x.f2.toNat = if q x.f0 = true then x.f2 else 0 := by
      rw [cnt_congr _ (fun _ => x.f0) q x.f1 _ (fun i hi => by
        show own _ (x :: l) = x.f0
        unfold own
        rw [if_pos (by omega)]), cnt_const]
      split <;> omega
    have c3 : cnt (fun t => own t (x :: l)) q (x.f1 + x.f2) (fr - (x.f1 + x.f2)).toNat = sumL (l.filter (fun x => q x.f0)) := by
      rw [← cnt_own fr pa q hq l (x.f1 + x.f2) (by omega) h']
      refine cnt_congr _ _ q _ _ (fun i hi => ?_)
      show own _ (x :: l) = own _ l
      conv => lhs; unfold own
      rw [if_neg (by omega)]
    rw [c1, c2, c3, List.filter_cons]
    split
    · show 0 + (x.f2 + _) = x.f2 + sumL _; omega
    · omega
theorem sum_le (fr pa : Int) : ∀ (l : List S143) (e : Int), e ≤ fr → okFrom fr pa e l = true → 0 ≤ sumL l ∧ sumL l ≤ fr - e
  | [], e, he, _ => by show (0 : Int) ≤ 0 ∧ (0 : Int) ≤ fr - e; omega
  | x :: l, e, he, h => by
    obtain ⟨b, h'⟩ := okFrom_cons h
    have := sum_le fr pa l _ (by omega) h'
    show 0 ≤ x.f2 + sumL l ∧ x.f2 + sumL l ≤ fr - e
    omega
theorem ok_filter (fr pa : Int) (q : S143 → Bool) : ∀ (l : List S143) (e e' : Int), e' ≤ e → okFrom fr pa e l = true → okFrom fr pa e' (l.filter q) = true
  | [], _, _, _, _ => rfl
  | x :: l, e, e', he, h => by
    obtain ⟨b, h'⟩ := okFrom_cons h
    rw [List.filter_cons]
    split
    · unfold okFrom
      rw [if_pos ⟨b.1, b.2.1, by omega⟩]
      exact ok_filter fr pa q l _ _ (Int.le_refl _) h'
    · exact ok_filter fr pa q l _ _ (by omega) h'
theorem sum_split (pa : Int) : ∀ (l : List S143) (n : Int), sumL (l.filter (fun x => decide (x.f0 < n + 1))) = sumL (l.filter (fun x => decide (x.f0 < n))) + sumL (l.filter (fun x => decide (x.f0 = n)))
  | [], _ => rfl
  | x :: l, n => by
    have ih := sum_split pa l n
    rw [List.filter_cons, List.filter_cons, List.filter_cons]
    by_cases c1 : x.f0 < n
    · rw [if_pos (by simp; omega), if_pos (by simpa using c1), if_neg (by simp; omega)]
      show x.f2 + sumL _ = x.f2 + sumL _ + _
      omega
    · by_cases c2 : x.f0 = n
      · rw [if_pos (by simp; omega), if_neg (by simpa using c1), if_pos (by simpa using c2)]
        show x.f2 + sumL _ = sumL _ + (x.f2 + sumL _)
        omega
      · rw [if_neg (by simp; omega), if_neg (by simpa using c1), if_neg (by simpa using c2)]
        exact ih
theorem all_bound (fr pa : Int) : ∀ (l : List S143) (e : Int), okFrom fr pa e l = true → ∀ x ∈ l, (0 ≤ x.f0 ∧ x.f0 ≤ pa - 1) ∧ (1 ≤ x.f2 ∧ x.f2 ≤ 10000) ∧ (e ≤ x.f1 ∧ x.f1 + x.f2 ≤ fr)
  | [], _, _, x, hx => by cases hx
  | y :: l, e, h, x, hx => by
    obtain ⟨b, h'⟩ := okFrom_cons h
    rcases List.mem_cons.1 hx with rfl | hx
    · exact b
    · have := all_bound fr pa l _ h' x hx
      exact ⟨this.1, this.2.1, by omega, this.2.2.2⟩
theorem owner_loop (l : List S143) (t : Int) (hn : l.length ≤ 1048576) (hb : ∀ x ∈ l, 0 ≤ x.f1 ∧ x.f1 ≤ 200000 ∧ 0 ≤ x.f2 ∧ x.f2 ≤ 10000) : ∀ m i, i + m = l.length →
    Ev (fun k => impl_owner.l0 k t l (l.length : Int) (i : Int)) (own t (l.drop i)) := by
  intro m
  induction m with
  | zero =>
    intro i hi
    refine Ev.step (fun k => by rw [impl_owner.l0]) ?_
    refine Ev.neg (by omega) ?_
    rw [List.drop_eq_nil_of_le (by omega)]
    exact Ev.now _
  | succ m ih =>
    intro i hi
    have hil : i < l.length := by omega
    have hbi := hb _ (List.getElem_mem hil)
    refine Ev.step (fun k => by rw [impl_owner.l0]) ?_
    refine Ev.pos (by omega) ?_
    refine Ev.pos (by omega) ?_
    refine Ev.pos (by omega) ?_
    rw [rd_at hil, w64 (x := (i : Int) + 1) (by omega) (by omega), w64 (x := l[i].f1 + l[i].f2) (by omega) (by omega), List.drop_eq_getElem_cons hil]
    unfold own
    by_cases c1 : t ≥ l[i].f1
    · refine Ev.pos c1 ?_
      by_cases c2 : t < l[i].f1 + l[i].f2
      · refine Ev.pos c2 ?_
        rw [if_pos ⟨c1, c2⟩]
        exact Ev.now _
      · refine Ev.neg c2 ?_
        rw [if_neg (fun h => c2 h.2)]
        exact ih (i + 1) (by omega)
    · refine Ev.neg c1 ?_
      rw [if_neg (fun h => c1 h.1)]
      exact ih (i + 1) (by omega)
theorem owner_ev (fr pa : Int) (l : List S143) (t : Int) (hf : 1 ≤ fr ∧ fr ≤ 100000) (hn : l.length ≤ 40) (hok : okFrom fr pa 0 l = true) :
    Ev (fun k => impl_owner.f k fr pa l t) (own (Int.tmod t fr) l) := by
  refine Ev.neg (by omega) ?_
  exact owner_loop l _ (by omega) (fun x hx => by have := all_bound fr pa l 0 hok x hx; omega) l.length 0 (by omega)
theorem Owner_ev (fr pa : Int) (l : List S143) (t : Int) (h : planOk fr pa l = true) (ht : 0 ≤ t ∧ t ≤ 100000000) :
    Ev (fun k => impl_Owner.f k fr pa l t) (own (Int.tmod t fr) l, true) := by
  obtain ⟨⟨hf, hp, hn⟩, hok⟩ := planOk_iff.1 h
  refine Ev.bind (impl_ok fr pa l (by omega)) ?_
  refine Ev.pos h ?_
  refine Ev.get (x := true) (by unfold impl_isTick.f; rw [in_im, decide_eq_true ht]; rfl) ?_
  refine Ev.pos rfl ?_
  refine Ev.bind (owner_ev fr pa l t hf hn hok) ?_
  exact Ev.now _
end Go.Proofs.Ytjgbjahpncfhhaa.WinCount
