import Derived.Test.YtjgbjahpncfhhaaQ1PW2x
import Derived.Test.YtjgbjahpncfhhaaQ1WinRunW2
namespace Go.Proofs.Ytjgbjahpncfhhaa.Pure
open Go.RowKit Go.Proofs.YtjgbjahpncfhhaaW.PrintWords Go.Proofs.YtjgbjahpncfhhaaW.PrintLast Go.Proofs.YtjgbjahpncfhhaaW.PrintMore Go.Proofs.Ytjgbjahpncfhhaa.HK Go.Proofs.Ytjgbjahpncfhhaa.PK Go.Proofs.Ytjgbjahpncfhhaa.PW2 Go.Proofs.Ytjgbjahpncfhhaa.PlanOk Go.Proofs.Ytjgbjahpncfhhaa.WinDraw Go.Proofs.Ytjgbjahpncfhhaa.Share Go.Proofs.Ytjgbjahpncfhhaa.WinCount Go.Proofs.Ytjgbjahpncfhhaa.Fit Go.Proofs.Ytjgbjahpncfhhaa.WinRun
theorem gapS_ge (c : Int) : ∀ (l : List S143) (g : Int), g ≤ gapS c g l
  | [], g => Int.le_refl _
  | [x], g => by show g ≤ mx g _; rw [mx_max]; omega
  | x :: y :: t, g => by
    have h := gapS_ge c (y :: t) (mx g (y.f1 - x.f1 - x.f2))
    show g ≤ gapS c _ (y :: t)
    rw [mx_max] at h ⊢
    omega
theorem gapS_le (fr pa c : Int) : ∀ (l : List S143) (g e : Int), g ≤ fr → 0 ≤ e → c - e ≤ fr → okFrom fr pa e l = true → gapS c g l ≤ fr
  | [], g, e, hg, _, _, _ => hg
  | [x], g, e, hg, he, hc, h => by
    obtain ⟨b, _⟩ := okFrom_cons h
    show mx g (c - x.f1 - x.f2) ≤ fr
    rw [mx_max]; omega
  | x :: y :: t, g, e, hg, he, hc, h => by
    obtain ⟨b, h'⟩ := okFrom_cons h
    obtain ⟨b', _⟩ := okFrom_cons h'
    show gapS c (mx g (y.f1 - x.f1 - x.f2)) (y :: t) ≤ fr
    refine gapS_le fr pa c (y :: t) _ (x.f1 + x.f2) ?_ (by omega) (by omega) h'
    rw [mx_max]; omega
theorem share_ok (fr pa : Int) (ws : List S143) (h : planOk fr pa ws = true) (j : Int) (hj : 0 ≤ j ∧ j ≤ pa - 1) :
    ∃ gap, Ev (fun k => impl_Share.f k fr pa ws j) (sumL (mineOf j ws), gap, true) ∧ 0 ≤ gap ∧ gap ≤ fr ∧ 0 ≤ sumL (mineOf j ws) ∧ sumL (mineOf j ws) ≤ fr := by
  obtain ⟨⟨hf, hp, hn⟩, hok⟩ := planOk_iff.1 h
  have hev := Share.impl_all fr pa j ws (by omega)
  unfold shareAll at hev
  rw [if_pos ⟨h, hj⟩] at hev
  have hm : okFrom fr pa 0 (mineOf j ws) = true := ok_filter fr pa _ ws 0 0 (Int.le_refl _) hok
  have hs := sum_le fr pa (mineOf j ws) 0 (by omega) hm
  generalize mineOf j ws = mine at hev hm hs
  cases mine with
  | nil => exact ⟨fr, hev, by omega, Int.le_refl _, by omega, by omega⟩
  | cons a t =>
    obtain ⟨b, h'⟩ := okFrom_cons hm
    refine ⟨gapS (a.f1 + fr) 0 (a :: t), hev, gapS_ge _ _ _, ?_, by omega, by omega⟩
    refine gapS_le fr pa (a.f1 + fr) (a :: t) 0 a.f1 (by omega) (by omega) (by omega) ?_
    unfold okFrom
    rw [if_pos ⟨b.1, b.2.1, by omega⟩]
    exact h'
def ins (fr long : Int) : Int → List S143 → Option (List S143)
  | e, [] => if e + long ≤ fr then some [⟨0, e, long⟩] else none
  | e, x :: t => if e + long ≤ x.f1 then some (⟨0, e, long⟩ :: x :: t) else (ins fr long (x.f1 + x.f2) t).map (x :: ·)
theorem ins_of (fr long : Int) : ∀ (l pre : List S143) (e : Int), ((fitFrom fr long e l pre.length).map (fun p => (pre ++ l).take p.1 ++ (⟨0, p.2, long⟩ : S143) :: (pre ++ l).drop p.1)) = (ins fr long e l).map (pre ++ ·)
  | [], pre, e => by
    unfold fitFrom ins
    split <;> simp
  | x :: t, pre, e => by
    unfold fitFrom ins
    split
    · simp
    · have h := ins_of fr long t (pre ++ [x]) (x.f1 + x.f2)
      rw [List.length_append, List.length_singleton, List.append_assoc, List.singleton_append] at h
      rw [h, Option.map_map]
      congr 1
      funext l
      simp
theorem ins_ok (fr pa long : Int) (hp : 1 ≤ pa) (hl : 1 ≤ long ∧ long ≤ 10000) : ∀ (l : List S143) (e : Int) (q : List S143), okFrom fr pa e l = true → ins fr long e l = some q →
    okFrom fr pa e q = true ∧ q.length = l.length + 1 ∧ ∀ t, own t q = own t l ∨ (own t l = -1 ∧ own t q = 0)
  | [], e, q, _, h => by
    unfold ins at h
    split at h
    · obtain rfl := Option.some.inj h
      refine ⟨?_, rfl, fun t => ?_⟩
      · unfold okFrom
        rw [if_pos ⟨⟨Int.le_refl _, by show (0 : Int) ≤ pa - 1; omega⟩, hl, Int.le_refl _, by assumption⟩]
        rfl
      · by_cases c : e ≤ t ∧ t < e + long
        · exact .inr ⟨rfl, by unfold own; rw [if_pos c]⟩
        · exact .inl (by unfold own; rw [if_neg c]; rfl)
    · cases h
  | x :: l, e, q, hok, h => by
    obtain ⟨b, h'⟩ := okFrom_cons hok
    unfold ins at h
    split at h
    · obtain rfl := Option.some.inj h
      refine ⟨?_, rfl, fun t => ?_⟩
      · unfold okFrom
        rw [if_pos ⟨⟨Int.le_refl _, by show (0 : Int) ≤ pa - 1; omega⟩, hl, Int.le_refl _, by show e + long ≤ fr; omega⟩]
        show okFrom fr pa (e + long) (x :: l) = true
        unfold okFrom
        rw [if_pos ⟨b.1, b.2.1, by omega⟩]
        exact h'
      · by_cases c : e ≤ t ∧ t < e + long
        · refine .inr ⟨?_, by conv => lhs; unfold own
                              rw [if_pos c]⟩
          unfold own
          rw [if_neg (by omega)]
          exact own_early fr pa l _ t h' (by omega)
        · refine .inl ?_
          conv => lhs; unfold own
          rw [if_neg c]
    · obtain ⟨q', hq, rfl⟩ := Option.map_eq_some_iff.1 h
      obtain ⟨i1, i2, i3⟩ := ins_ok fr pa long hp hl l _ q' h' hq
      refine ⟨?_, by simp [i2], fun t => ?_⟩
      · unfold okFrom
        rw [if_pos b]
        exact i1
      · unfold own
        split
        · exact .inl rfl
        · exact i3 t
theorem fit_ok (fr pa long : Int) (ws : List S143) (h : planOk fr pa ws = true) (hn : ws.length ≤ 6) (hl : 1 ≤ long ∧ long ≤ 10000) :
    ∃ q ok, Ev (fun k => impl_FitWindow.f k fr pa ws 0 long) (fr, pa, q, ok) ∧ (ok = true → planOk fr pa q = true ∧ ∀ t, own t q = own t ws ∨ (own t ws = -1 ∧ own t q = 0)) := by
  obtain ⟨⟨hf, hp, _⟩, hok⟩ := planOk_iff.1 h
  have hev := Fit.impl_all fr pa 0 long ws (by omega)
  unfold fitAll at hev
  rw [if_pos ⟨h, by omega, ⟨Int.le_refl _, by omega⟩, hl⟩] at hev
  have hi := ins_of fr long ws [] 0
  rw [List.length_nil, List.nil_append] at hi
  cases hff : fitFrom fr long 0 ws 0 with
  | none =>
    rw [hff] at hev
    exact ⟨ws, false, hev, fun h => by cases h⟩
  | some p =>
    rw [hff] at hev hi
    refine ⟨_, true, hev, fun _ => ?_⟩
    obtain ⟨q', hq, hq2⟩ := Option.map_eq_some_iff.1 hi.symm
    rw [List.nil_append] at hq2
    obtain ⟨i1, i2, i3⟩ := ins_ok fr pa long (by omega) hl ws 0 q' hok hq
    dsimp only at hq2
    rw [← hq2]
    exact ⟨planOk_iff.2 ⟨⟨hf, hp, by omega⟩, i1⟩, i3⟩
theorem at_ok (l : List Int) (hl : l.length ≤ 1048576) (hb : ∀ x ∈ l, (Lit.int .u8 x).wf = true) : ∃ v, laws_at.f l 2 = some v ∧ 0 ≤ v := by
  unfold laws_at.f
  by_cases c : (2 : Int) < (l.length : Int)
  · rw [if_pos c, if_pos (by omega)]
    have hlt : 2 < l.length := by omega
    have hm := hb _ (List.getElem_mem hlt)
    have hr : rd l 2 = l[2] := by simp [rd, List.getD, hlt]
    have hw : 0 ≤ l[2] ∧ l[2] ≤ 255 := by
      have hm' : IntKind.u8.min ≤ l[2] ∧ l[2] ≤ IntKind.u8.max := by simpa [Lit.wf] using hm
      exact hm'
    exact ⟨_, rfl, by rw [hr, w64 (by omega) (by omega)]; omega⟩
  · rw [if_neg c]
    refine ⟨_, rfl, ?_⟩
    rw [w64 (x := 2 * 7) (by omega) (by omega), w64 (by omega) (by omega)]
    exact Int.tmod_nonneg _ (by omega)
theorem same_ok (l : List Int) (hl : l.length ≤ 1048576) : Ev (fun k => laws_sameInts.f k l l) true := by
  refine Ev.pos rfl ?_
  refine ev_up (σ := Unit) (g := fun k _ i => laws_sameInts.l0 k l l i) l.length (fun _ => ()) ?_ ?_ 0 (by omega)
  · intro i hi h
    refine Ev.step (fun k => by rw [laws_sameInts.l0]) ?_
    refine Ev.pos (by omega) (Ev.pos (by omega) (Ev.pos (by omega) (Ev.pos rfl ?_)))
    rw [w64 (by omega) (by omega)]
    exact h
  · refine Ev.step (fun k => by rw [laws_sameInts.l0]) ?_
    exact Ev.neg (by omega) (Ev.now _)
theorem tail_ok (fr pa : Int) (ws : List S143) (js : List S180) (sum : Int) (h : planOk fr pa ws = true) (hfr : fr ≤ 100) (_ : ws.length ≤ 6) (hj : js.length ≤ 5) (hjb : ∀ x ∈ js, Jb pa x) (hs : sum = sumL ws) (q : List S143) (ok : Bool)
    (hq : ok = true → planOk fr pa q = true ∧ ∀ t, own t q = own t ws ∨ (own t ws = -1 ∧ own t q = 0)) : ∀ (m t : Nat), (t : Int) + (m : Int) = fr →
    Ev (fun k => laws_FnWindows.l2 k js sum ok (t : Int) fr pa ws fr pa q) true := by
  obtain ⟨⟨hf, hp, hw⟩, hok⟩ := planOk_iff.1 h
  have hcnt : cnt (fun t => own t ws) pos 0 fr.toNat = sumL ws := by
    have h1 := cnt_own fr pa pos (by decide) ws 0 (by omega) hok
    rw [Int.sub_zero] at h1
    rw [h1]
    congr 1
    rw [List.filter_eq_self]
    intro x hx
    exact decide_eq_true (all_bound fr pa ws 0 hok x hx).1.1
  have last : ∀ t : Int, Ev (fun k => laws_FnWindows.j6 k js sum ok t false fr pa ws fr pa q) true := by
    intro t
    refine Ev.step (fun k => by rw [laws_FnWindows.j6]) ?_
    refine Ev.neg (by simp) ?_
    obtain ⟨late, idle, r1, r2, r3, r4⟩ := rj_loop js fr pa ws (by omega) hw hok (by omega) hjb fr.toNat 0 (List.replicate js.length 0) (List.replicate js.length 0) (List.replicate js.length 0) 0 (by omega) (by simp) (by simp) (by simp) (Int.le_refl _) (Int.le_refl _)
    refine Ev.bind (run_ok js fr pa ws h (by omega) (by omega) hjb _ r4) ?_
    have hnil := rj_nil fr pa ws (by omega) hw hok fr.toNat 0 (by omega)
    refine Ev.bind (run_ok [] fr pa ws h (by omega) (by simp) (by simp) _ hnil) ?_
    dsimp only
    refine Ev.pos rfl (Ev.pos rfl (Ev.pos (by omega) (Ev.pos r2 (Ev.pos (by omega) (Ev.pos rfl ?_)))))
    rw [hcnt, hs, beq_self_eq_true]
    exact Ev.now _
  intro m
  induction m with
  | zero =>
    intro t ht
    refine Ev.step (fun k => by rw [laws_FnWindows.l2]) ?_
    refine Ev.neg (by omega) ?_
    exact last _
  | succ m ih =>
    intro t ht
    have ih := ih (t + 1) (by omega)
    refine Ev.step (fun k => by rw [laws_FnWindows.l2]) ?_
    refine Ev.pos (by omega) ?_
    cases hokb : ok with
    | false => rw [hokb] at last; exact last _
    | true =>
      obtain ⟨hq1, hq2⟩ := hq hokb
      rw [hokb] at ih
      have go : Ev (fun k => laws_FnWindows.j7 k js sum true (t : Int) false fr pa ws fr pa q) true := by
        refine Ev.step (fun k => by rw [laws_FnWindows.j7]) ?_
        refine Ev.neg (by simp) ?_
        rw [w64 (by omega) (by omega)]
        exact ih
      refine Ev.step (fun k => by rw [laws_FnWindows.j6]) ?_
      refine Ev.pos rfl ?_
      have w1 := Owner_ev fr pa ws (t : Int) h (by omega)
      have w2 := Owner_ev fr pa q (t : Int) hq1 (by omega)
      rw [tmod_in t fr (by omega)] at w1 w2
      refine Ev.bind w1 ?_
      refine Ev.bind w2 ?_
      dsimp only
      rcases hq2 (t : Int) with he | ⟨h1, h2⟩
      · rw [he]
        by_cases c : own (t : Int) ws ≥ 0
        · refine Ev.pos c (Ev.pos rfl (Ev.neg (by omega) ?_))
          exact go
        · refine Ev.neg c (Ev.pos (by omega) ?_)
          rw [decide_eq_false (by omega)]
          exact go
      · rw [h1, h2]
        refine Ev.neg (by omega) (Ev.pos (by omega) ?_)
        rw [decide_eq_false (by omega)]
        exact go
theorem set_range (n i : Nat) (f g : Nat → Int) (hi : i < n) (h : ∀ j, j ≠ i → g j = f j) : ((List.range n).map f).set i (g i) = (List.range n).map g := by
  apply List.ext_getElem
  · simp
  · intro j h1 h2
    rw [List.getElem_set]
    split
    · subst_vars; simp
    · simp; exact (h j (by omega)).symm
theorem FnWindows : laws_FnWindows.Pure := by
  intro l h1 h2 hb
  refine Ev.rounds ?_
  by_cases hbig : (l.length : Int) > 1048576
  · refine Ev.get (x := true) (by unfold laws_big.f; rw [decide_eq_true hbig]) ?_
    exact Ev.pos rfl (Ev.now _)
  · refine Ev.get (x := false) (by unfold laws_big.f; rw [decide_eq_false hbig]) ?_
    refine Ev.neg (by simp) ?_
    obtain ⟨fr, pa, ws, js, hd, hf, hp, hn, hok, hj, hjb⟩ := draw_ok l (by omega)
    have hplan : planOk fr pa ws = true := planOk_iff.2 ⟨⟨by omega, by omega, by omega⟩, hok⟩
    refine Ev.bind hd ?_
    dsimp only
    obtain ⟨n, rfl⟩ := Int.eq_ofNat_of_zero_le (show 0 ≤ pa by omega)
    have hS := sum_le fr n ws 0 (by omega) hok
    -- the end
    have e4 : Ev (fun k => laws_FnWindows.j4 k l js (sumL ws) false fr n ws) true := by
      refine Ev.step (fun k => by rw [laws_FnWindows.j4]) ?_
      refine Ev.neg (by simp) ?_
      obtain ⟨v, ev, hv⟩ := at_ok l (by omega) hb
      refine Ev.get ev ?_
      have ht : 0 ≤ Int.tmod v 4 ∧ Int.tmod v 4 < 4 := Draw.tmod_ok v 4 hv (by omega)
      rw [w64 (x := 1 + Int.tmod v 4) (by omega) (by omega)]
      obtain ⟨q, ok, hev, hq⟩ := fit_ok fr n (1 + Int.tmod v 4) ws hplan hn (by omega)
      refine Ev.bind hev ?_
      exact tail_ok fr n ws js (sumL ws) hplan (by omega) hn hj hjb rfl q ok hq fr.toNat 0 (by omega)
    -- the count of the ticks
    have hshare : (List.range n).map (fun j : Nat => cnt (fun t => own t ws) (fun c => decide (c = (j : Int))) 0 fr.toNat) = (List.range n).map (fun j : Nat => sumL (mineOf (j : Int) ws)) := by
      apply List.map_congr_left
      intro j _
      have h1 := cnt_own fr n (fun c => decide (c = (j : Int))) (decide_eq_false (by omega)) ws 0 (by omega) hok
      rw [Int.sub_zero] at h1
      exact h1
    have e1 : ∀ m t : Nat, (t : Int) + (m : Int) = fr → Ev (fun k => laws_FnWindows.l1 k l js (sumL ws) ((List.range n).map (fun j : Nat => sumL (mineOf (j : Int) ws))) ((List.range n).map (fun j : Nat => cnt (fun t => own t ws) (fun c => decide (c = (j : Int))) 0 t)) (t : Int) fr n ws) true := by
      intro m
      induction m with
      | zero =>
        intro t ht
        refine Ev.step (fun k => by rw [laws_FnWindows.l1]) ?_
        refine Ev.neg (by omega) ?_
        rw [show t = fr.toNat by omega, hshare]
        refine Ev.bind (same_ok _ (by simp; omega)) ?_
        refine Ev.pos rfl (Ev.neg (by omega) ?_)
        refine Ev.bind (impl_ok fr n ws (by omega)) ?_
        rw [hplan]
        exact e4
      | succ m ih =>
        intro t ht
        have ih := ih (t + 1) (by omega)
        refine Ev.step (fun k => by rw [laws_FnWindows.l1]) ?_
        refine Ev.pos (by omega) ?_
        have w1 := Owner_ev fr n ws (t : Int) hplan (by omega)
        rw [tmod_in t fr (by omega)] at w1
        refine Ev.bind w1 ?_
        rw [w64 (x := (t : Int) + fr) (by omega) (by omega)]
        have w2 := Owner_ev fr n ws ((t : Int) + fr) hplan (by omega)
        have hm : Int.tmod ((t : Int) + fr) fr = (t : Int) := by
          rw [Int.tmod_eq_emod_of_nonneg (by omega), Int.add_emod_right]; exact Int.emod_eq_of_lt (by omega) (by omega)
        rw [hm] at w2
        refine Ev.bind w2 ?_
        have hr := own_range fr n (by omega) ws 0 (t : Int) hok
        refine Ev.pos rfl (Ev.neg (by omega) (Ev.neg (by simp only; omega) ?_))
        rw [bne_self_eq_false]
        refine Ev.step (fun k => by rw [laws_FnWindows.j3]) ?_
        refine Ev.neg (by simp) ?_
        have hstep : ∀ j : Nat, cnt (fun t => own t ws) (fun c => decide (c = (j : Int))) 0 (t + 1) = cnt (fun t => own t ws) (fun c => decide (c = (j : Int))) 0 t + (if own (t : Int) ws = (j : Int) then 1 else 0) := by
          intro j
          show _ + (if decide (own (0 + (t : Int)) ws = (j : Int)) = true then (1 : Int) else 0) = _
          rw [Int.zero_add]
          congr 1
          by_cases c : own (t : Int) ws = (j : Int)
          · rw [if_pos (decide_eq_true c), if_pos c]
          · rw [if_neg (by simpa using c), if_neg c]
        have hbig : ∀ j : Nat, 0 ≤ cnt (fun t => own t ws) (fun c => decide (c = (j : Int))) 0 t ∧ cnt (fun t => own t ws) (fun c => decide (c = (j : Int))) 0 t ≤ (t : Int) := fun j => ⟨cnt_nonneg _ _ _ _, cnt_le _ _ _ _⟩
        by_cases c : own (t : Int) ws ≥ 0
        · obtain ⟨o, ho⟩ := Int.eq_ofNat_of_zero_le c
          refine Ev.pos c (Ev.pos c (Ev.pos (by simp only [List.length_map, List.length_range]; omega) ?_))
          have ho' : o < n := by omega
          rw [w64 (x := (t : Int) + 1) (by omega) (by omega)]
          simp only
          rw [ho, Int.toNat_natCast]
          have hrd : rd ((List.range n).map (fun j : Nat => cnt (fun t => own t ws) (fun c => decide (c = (j : Int))) 0 t)) (o : Int) = cnt (fun t => own t ws) (fun c => decide (c = (o : Int))) 0 t := by
            simp [rd, List.getD, ho']
          have hbo := hbig o
          rw [hrd, w64 (by omega) (by omega)]
          have hso := hstep o
          rw [if_pos ho] at hso
          rw [← hso]
          have hset := set_range n o (fun j : Nat => cnt (fun t => own t ws) (fun c => decide (c = (j : Int))) 0 t) (fun j : Nat => cnt (fun t => own t ws) (fun c => decide (c = (j : Int))) 0 (t + 1)) ho' (fun j hjo => by
            show cnt _ _ 0 (t + 1) = cnt _ _ 0 t
            rw [hstep j, if_neg (by rw [ho]; omega)]; omega)
          rw [hset]
          exact ih
        · refine Ev.neg c ?_
          rw [w64 (x := (t : Int) + 1) (by omega) (by omega)]
          have heq : (List.range n).map (fun j : Nat => cnt (fun t => own t ws) (fun c => decide (c = (j : Int))) 0 (t + 1)) = (List.range n).map (fun j : Nat => cnt (fun t => own t ws) (fun c => decide (c = (j : Int))) 0 t) := by
            apply List.map_congr_left
            intro j _
            rw [hstep j, if_neg (by omega)]; omega
          have ih' := ih
          rw [heq] at ih'
          exact ih'
    -- the shares
    have e0 : ∀ m i : Nat, i + m = n → Ev (fun k => laws_FnWindows.l0 k l js (sumL (ws.filter (fun x => decide (x.f0 < (i : Int))))) ((List.range i).map (fun j : Nat => sumL (mineOf (j : Int) ws))) (i : Int) fr n ws) true := by
      intro m
      induction m with
      | zero =>
        intro i hi
        obtain rfl : i = n := by omega
        refine Ev.step (fun k => by rw [laws_FnWindows.l0]) ?_
        refine Ev.neg (by omega) (Ev.pos (by omega) (Ev.pos (by omega) ?_))
        have hall : ws.filter (fun x => decide (x.f0 < (i : Int))) = ws := by
          rw [List.filter_eq_self]
          intro x hx
          have := all_bound fr i ws 0 hok x hx
          exact decide_eq_true (by omega)
        rw [hall, Int.toNat_natCast]
        have h0 := e1 fr.toNat 0 (by omega)
        have hz : (List.range i).map (fun j : Nat => cnt (fun t => own t ws) (fun c => decide (c = (j : Int))) 0 0) = List.replicate i 0 := by
          rw [List.eq_replicate_iff]
          refine ⟨by simp, fun b hb => ?_⟩
          obtain ⟨j, _, rfl⟩ := List.mem_map.1 hb
          rfl
        rw [hz] at h0
        exact h0
      | succ m ih =>
        intro i hi
        have ih := ih (i + 1) (by omega)
        refine Ev.step (fun k => by rw [laws_FnWindows.l0]) ?_
        refine Ev.pos (by omega) ?_
        obtain ⟨gap, hev, g0, g1, s0, s1⟩ := share_ok fr n ws hplan (i : Int) (by omega)
        refine Ev.bind hev ?_
        refine Ev.pos rfl (Ev.neg (by simp only; omega) (Ev.neg (by simp only; omega) ?_))
        rw [decide_eq_false (by omega)]
        refine Ev.step (fun k => by rw [laws_FnWindows.j1]) ?_
        refine Ev.neg (by simp) (Ev.pos (by simp; omega) ?_)
        have hsp := sum_split n ws (i : Int)
        have hle := sum_le fr n (ws.filter (fun x => decide (x.f0 < (i : Int)))) 0 (by omega) (ok_filter fr n _ ws 0 0 (Int.le_refl _) hok)
        rw [w64 (x := (i : Int) + 1) (by omega) (by omega), w64 (by simp only; omega) (by simp only; omega)]
        rw [show ((i + 1 : Nat) : Int) = (i : Int) + 1 by omega, hsp, List.range_succ, List.map_append] at ih
        exact ih
    have h0 := e0 n 0 (by omega)
    have hz : ws.filter (fun x => decide (x.f0 < ((0 : Nat) : Int))) = [] := by
      rw [List.filter_eq_nil_iff]
      intro x hx
      have := all_bound fr n ws 0 hok x hx
      simp; omega
    rw [hz] at h0
    exact h0
end Go.Proofs.Ytjgbjahpncfhhaa.Pure
