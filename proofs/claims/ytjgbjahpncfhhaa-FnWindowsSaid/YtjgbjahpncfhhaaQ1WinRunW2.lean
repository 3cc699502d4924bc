import Derived.Test.YtjgbjahpncfhhaaQ1WinCountW2
namespace Go.Proofs.Ytjgbjahpncfhhaa.WinRun
open Go.RowKit Go.Proofs.YtjgbjahpncfhhaaW.PrintWords Go.Proofs.YtjgbjahpncfhhaaW.PrintLast Go.Proofs.YtjgbjahpncfhhaaW.PrintMore Go.Proofs.Ytjgbjahpncfhhaa.PK Go.Proofs.Ytjgbjahpncfhhaa.PW2 Go.Proofs.Ytjgbjahpncfhhaa.PlanOk Go.Proofs.Ytjgbjahpncfhhaa.WinDraw Go.Proofs.Ytjgbjahpncfhhaa.Share Go.Proofs.Ytjgbjahpncfhhaa.WinCount
def pos (c : Int) : Bool := decide (0 ≤ c)
theorem rj_at {xs : List S180} {i : Nat} (h : i < xs.length) : rd_T180 xs (i : Int) = xs[i] := getD_at h
theorem rj_two (js : List S180) (late came : List Int) (who fr pa : Int) (ws : List S143) (t : Nat) (hn : js.length ≤ 20) (hc : came.length = js.length) (ht : (t : Int) ≤ 100000) (_ : fr ≤ 100000) : ∀ (m i : Nat) (left : List Int) (idle best : Int), i + m = js.length → left.length = js.length → 0 ≤ idle → idle ≤ 1000000 → -1 ≤ best → best < (js.length : Int) →
    ∃ idle' left', left'.length = js.length ∧ (idle' = idle ∨ (idle' = idle + 1 ∧ 0 ≤ who)) ∧
      ∀ r, Ev (fun k => impl_RunJobs.l0 k js late left' came idle' fr ((t : Int) + 1) fr pa ws) r → Ev (fun k => impl_RunJobs.l2 k js late left came idle who best fr (t : Int) js (js.length : Int) (i : Int) fr pa ws) r := by
  intro m
  induction m with
  | zero =>
    intro i left idle best hi hl h0 h1 hb0 hb1
    by_cases c1 : best ≥ 0
    · refine ⟨idle, left.set best.toNat (wrap64 (rd left best - 1)), by rw [List.length_set]; exact hl, .inl rfl, fun r hr => ?_⟩
      refine Ev.step (fun k => by rw [impl_RunJobs.l2]) ?_
      refine Ev.neg (by omega) ?_
      refine Ev.pos c1 ?_
      refine Ev.pos c1 ?_
      refine Ev.pos (by omega) ?_
      rw [w64 (x := (t : Int) + 1) (by omega) (by omega)]
      exact hr
    · by_cases c2 : who ≥ 0
      · refine ⟨idle + 1, left, hl, .inr ⟨rfl, c2⟩, fun r hr => ?_⟩
        refine Ev.step (fun k => by rw [impl_RunJobs.l2]) ?_
        refine Ev.neg (by omega) ?_
        refine Ev.neg c1 ?_
        refine Ev.pos c2 ?_
        rw [w64 (x := (t : Int) + 1) (by omega) (by omega), w64 (x := idle + 1) (by omega) (by omega)]
        exact hr
      · refine ⟨idle, left, hl, .inl rfl, fun r hr => ?_⟩
        refine Ev.step (fun k => by rw [impl_RunJobs.l2]) ?_
        refine Ev.neg (by omega) ?_
        refine Ev.neg c1 ?_
        refine Ev.neg c2 ?_
        rw [w64 (x := (t : Int) + 1) (by omega) (by omega)]
        exact hr
  | succ m ih =>
    intro i left idle best hi hl h0 h1 hb0 hb1
    have hil : i < js.length := by omega
    have hw : wrap64 ((i : Int) + 1) = ((i + 1 : Nat) : Int) := w64 (by omega) (by omega)
    -- the next element, with either best
    have next : ∀ (b : Bool), ∃ idle' left', left'.length = js.length ∧ (idle' = idle ∨ (idle' = idle + 1 ∧ 0 ≤ who)) ∧
        ∀ r, Ev (fun k => impl_RunJobs.l0 k js late left' came idle' fr ((t : Int) + 1) fr pa ws) r → Ev (fun k => impl_RunJobs.j4 k js late left came idle who best (i : Int) fr (t : Int) js (js.length : Int) (i : Int) b fr pa ws) r := by
      intro b
      cases b with
      | true =>
        obtain ⟨d, l', q1, q2, q3⟩ := ih (i + 1) left idle (i : Int) (by omega) hl h0 h1 (by omega) (by omega)
        refine ⟨d, l', q1, q2, fun r hr => ?_⟩
        refine Ev.step (fun k => by rw [impl_RunJobs.j4]) ?_
        refine Ev.pos rfl ?_
        rw [hw]
        exact q3 r hr
      | false =>
        obtain ⟨d, l', q1, q2, q3⟩ := ih (i + 1) left idle best (by omega) hl h0 h1 hb0 hb1
        refine ⟨d, l', q1, q2, fun r hr => ?_⟩
        refine Ev.step (fun k => by rw [impl_RunJobs.j4]) ?_
        refine Ev.neg (by simp) ?_
        rw [hw]
        exact q3 r hr
    by_cases c1 : js[i].f0 = who
    · by_cases c2 : rd left (i : Int) > 0
      · by_cases c3 : best < 0
        · obtain ⟨d, l', q1, q2, q3⟩ := next true
          refine ⟨d, l', q1, q2, fun r hr => ?_⟩
          refine Ev.step (fun k => by rw [impl_RunJobs.l2]) ?_
          refine Ev.pos (by omega) (Ev.pos (by omega) (Ev.pos (by omega) ?_))
          rw [rj_at hil]
          refine Ev.pos c1 (Ev.pos (by omega) (Ev.pos c2 (Ev.pos c3 ?_)))
          exact q3 r hr
        · obtain ⟨d, l', q1, q2, q3⟩ := next (decide (rd came (i : Int) < rd came best))
          refine ⟨d, l', q1, q2, fun r hr => ?_⟩
          refine Ev.step (fun k => by rw [impl_RunJobs.l2]) ?_
          refine Ev.pos (by omega) (Ev.pos (by omega) (Ev.pos (by omega) ?_))
          rw [rj_at hil]
          refine Ev.pos c1 (Ev.pos (by omega) (Ev.pos c2 (Ev.neg c3 (Ev.pos (by omega) (Ev.pos (by omega) (Ev.pos (by omega) ?_))))))
          exact q3 r hr
      · obtain ⟨d, l', q1, q2, q3⟩ := next false
        refine ⟨d, l', q1, q2, fun r hr => ?_⟩
        refine Ev.step (fun k => by rw [impl_RunJobs.l2]) ?_
        refine Ev.pos (by omega) (Ev.pos (by omega) (Ev.pos (by omega) ?_))
        rw [rj_at hil]
        refine Ev.pos c1 (Ev.pos (by omega) (Ev.neg c2 ?_))
        exact q3 r hr
    · obtain ⟨d, l', q1, q2, q3⟩ := next false
      refine ⟨d, l', q1, q2, fun r hr => ?_⟩
      refine Ev.step (fun k => by rw [impl_RunJobs.l2]) ?_
      refine Ev.pos (by omega) (Ev.pos (by omega) (Ev.pos (by omega) ?_))
      rw [rj_at hil]
      refine Ev.neg c1 ?_
      exact q3 r hr
theorem rj_one (js : List S180) (fr pa : Int) (ws : List S143) (idle : Int) (t : Nat) (hn : js.length ≤ 20) (hj : ∀ x ∈ js, Jb pa x) (who : Int) (hwho : Ev (fun k => impl_owner.f k fr pa ws (t : Int)) who) : ∀ (m i : Nat) (late left came : List Int), i + m = js.length → late.length = js.length → left.length = js.length → came.length = js.length →
    ∃ late' left' came', late'.length = js.length ∧ left'.length = js.length ∧ came'.length = js.length ∧
      ∀ r, Ev (fun k => impl_RunJobs.l2 k js late' left' came' idle who (-1) fr (t : Int) js (js.length : Int) 0 fr pa ws) r → Ev (fun k => impl_RunJobs.l1 k js late left came idle (t : Int) fr (t : Int) js (js.length : Int) (i : Int) fr pa ws) r := by
  intro m
  induction m with
  | zero =>
    intro i late left came hi h1 h2 h3
    refine ⟨late, left, came, h1, h2, h3, fun r hr => ?_⟩
    refine Ev.step (fun k => by rw [impl_RunJobs.l1]) ?_
    refine Ev.neg (by omega) ?_
    exact Ev.bind hwho hr
  | succ m ih =>
    intro i late left came hi h1 h2 h3
    have hil : i < js.length := by omega
    have hw : wrap64 ((i : Int) + 1) = ((i + 1 : Nat) : Int) := w64 (by omega) (by omega)
    have hjb := hj _ (List.getElem_mem hil)
    obtain ⟨g1, g2, g3⟩ := hjb
    by_cases c1 : Int.tmod (t : Int) js[i].f1 = 0
    · by_cases c2 : rd left (i : Int) > 0
      · obtain ⟨a, b, c, q1, q2, q3, q4⟩ := ih (i + 1) (late.set i (wrap64 (rd late (i : Int) + 1))) (left.set i js[i].f2) (came.set i (t : Int)) (by omega) (by simpa using h1) (by simpa using h2) (by simpa using h3)
        refine ⟨a, b, c, q1, q2, q3, fun r hr => ?_⟩
        refine Ev.step (fun k => by rw [impl_RunJobs.l1]) ?_
        refine Ev.pos (by omega) (Ev.pos (by omega) (Ev.pos (by omega) ?_))
        rw [rj_at hil, hw]
        refine Ev.neg (by omega) (Ev.pos c1 (Ev.pos (by omega) (Ev.pos c2 (Ev.pos (by omega) (Ev.pos (by omega) ?_)))))
        exact q4 r hr
      · obtain ⟨a, b, c, q1, q2, q3, q4⟩ := ih (i + 1) late (left.set i js[i].f2) (came.set i (t : Int)) (by omega) h1 (by simpa using h2) (by simpa using h3)
        refine ⟨a, b, c, q1, q2, q3, fun r hr => ?_⟩
        refine Ev.step (fun k => by rw [impl_RunJobs.l1]) ?_
        refine Ev.pos (by omega) (Ev.pos (by omega) (Ev.pos (by omega) ?_))
        rw [rj_at hil, hw]
        refine Ev.neg (by omega) (Ev.pos c1 (Ev.pos (by omega) (Ev.neg c2 (Ev.pos (by omega) ?_))))
        exact q4 r hr
    · obtain ⟨a, b, c, q1, q2, q3, q4⟩ := ih (i + 1) late left came (by omega) h1 h2 h3
      refine ⟨a, b, c, q1, q2, q3, fun r hr => ?_⟩
      refine Ev.step (fun k => by rw [impl_RunJobs.l1]) ?_
      refine Ev.pos (by omega) (Ev.pos (by omega) (Ev.pos (by omega) ?_))
      rw [rj_at hil, hw]
      refine Ev.neg (by omega) (Ev.neg c1 ?_)
      exact q4 r hr
theorem tmod_in (t : Nat) (fr : Int) (h : (t : Int) < fr) : Int.tmod (t : Int) fr = (t : Int) := by
  rw [Int.tmod_eq_emod_of_nonneg (by omega)]; exact Int.emod_eq_of_lt (by omega) h
theorem cnt_le (f : Int → Int) (q : Int → Bool) (a : Int) : ∀ n : Nat, cnt f q a n ≤ (n : Int)
  | 0 => Int.le_refl _
  | n + 1 => by
    have := cnt_le f q a n
    show cnt f q a n + _ ≤ _
    split <;> omega
theorem rj_loop (js : List S180) (fr pa : Int) (ws : List S143) (hf : 1 ≤ fr ∧ fr ≤ 100000) (hw : ws.length ≤ 40) (hok : okFrom fr pa 0 ws = true) (hn : js.length ≤ 20) (hj : ∀ x ∈ js, Jb pa x) : ∀ (m t : Nat) (late left came : List Int) (idle : Int), (t : Int) + (m : Int) = fr → late.length = js.length → left.length = js.length → came.length = js.length → 0 ≤ idle → idle ≤ cnt (fun t => own t ws) pos 0 t →
    ∃ late' idle', late'.length = js.length ∧ 0 ≤ idle' ∧ idle' ≤ cnt (fun t => own t ws) pos 0 fr.toNat ∧ Ev (fun k => impl_RunJobs.l0 k js late left came idle fr (t : Int) fr pa ws) (late', idle', true) := by
  intro m
  induction m with
  | zero =>
    intro t late left came idle ht h1 h2 h3 h4 h5
    refine ⟨late, idle, h1, h4, by rw [show fr.toNat = t by omega]; exact h5, ?_⟩
    refine Ev.step (fun k => by rw [impl_RunJobs.l0]) ?_
    exact Ev.neg (by omega) (Ev.now _)
  | succ m ih =>
    intro t late left came idle ht h1 h2 h3 h4 h5
    have hwho := owner_ev fr pa ws (t : Int) hf hw hok
    rw [tmod_in t fr (by omega)] at hwho
    obtain ⟨a, b, c, q1, q2, q3, q4⟩ := rj_one js fr pa ws idle t hn hj _ hwho js.length 0 late left came (by omega) h1 h2 h3
    have hle := cnt_le (fun t => own t ws) pos 0 t
    obtain ⟨d, l', r1, r2, r3⟩ := rj_two js a c (own (t : Int) ws) fr pa ws t hn q3 (by omega) (by omega) js.length 0 b idle (-1) (by omega) q2 h4 (by omega) (by omega) (by omega)
    have h6 : cnt (fun t => own t ws) pos 0 (t + 1) = cnt (fun t => own t ws) pos 0 t + (if pos (own (t : Int) ws) = true then 1 else 0) := by
      show _ + (if pos (own (0 + (t : Int)) ws) = true then (1 : Int) else 0) = _
      rw [Int.zero_add]
    have h7 : 0 ≤ d ∧ d ≤ cnt (fun t => own t ws) pos 0 (t + 1) := by
      rw [h6]
      rcases r2 with rfl | ⟨rfl, hp⟩
      · constructor
        · omega
        · split <;> omega
      · rw [if_pos (show pos (own (t : Int) ws) = true from decide_eq_true hp)]; omega
    obtain ⟨late', idle', s1, s2, s3, s4⟩ := ih (t + 1) a l' c d (by omega) q1 r1 q3 h7.1 h7.2
    refine ⟨late', idle', s1, s2, s3, ?_⟩
    refine Ev.step (fun k => by rw [impl_RunJobs.l0]) ?_
    refine Ev.pos (by omega) ?_
    exact q4 _ (r3 _ s4)
theorem rj_nil (fr pa : Int) (ws : List S143) (hf : 1 ≤ fr ∧ fr ≤ 100000) (hw : ws.length ≤ 40) (hok : okFrom fr pa 0 ws = true) : ∀ (m t : Nat), (t : Int) + (m : Int) = fr →
    Ev (fun k => impl_RunJobs.l0 k [] [] [] [] (cnt (fun t => own t ws) pos 0 t) fr (t : Int) fr pa ws) ([], cnt (fun t => own t ws) pos 0 fr.toNat, true) := by
  intro m
  induction m with
  | zero =>
    intro t ht
    rw [show fr.toNat = t by omega]
    refine Ev.step (fun k => by rw [impl_RunJobs.l0]) ?_
    exact Ev.neg (by omega) (Ev.now _)
  | succ m ih =>
    intro t ht
    have hwho := owner_ev fr pa ws (t : Int) hf hw hok
    rw [tmod_in t fr (by omega)] at hwho
    have hle := cnt_le (fun t => own t ws) pos 0 t
    have h0 := cnt_nonneg (fun t => own t ws) pos 0 t
    have h6 : cnt (fun t => own t ws) pos 0 (t + 1) = cnt (fun t => own t ws) pos 0 t + (if pos (own (t : Int) ws) = true then 1 else 0) := by
      show _ + (if pos (own (0 + (t : Int)) ws) = true then (1 : Int) else 0) = _
      rw [Int.zero_add]
    have h := ih (t + 1) (by omega)
    rw [h6] at h
    refine Ev.step (fun k => by rw [impl_RunJobs.l0]) ?_
    refine Ev.pos (by omega) ?_
    refine Ev.step (fun k => by rw [impl_RunJobs.l1]) ?_
    refine Ev.neg (by simp) ?_
    refine Ev.bind hwho ?_
    refine Ev.step (fun k => by rw [impl_RunJobs.l2]) ?_
    refine Ev.neg (by simp) ?_
    refine Ev.neg (by omega) ?_
    rw [w64 (x := (t : Int) + 1) (by omega) (by omega), w64 (x := cnt (fun t => own t ws) pos 0 t + 1) (by omega) (by omega)]
    by_cases c2 : own (t : Int) ws ≥ 0
    · refine Ev.pos c2 ?_
      rw [if_pos (show pos (own (t : Int) ws) = true from decide_eq_true c2)] at h
      exact h
    · refine Ev.neg c2 ?_
      rw [if_neg (by unfold pos; simpa using c2), Int.add_zero] at h
      exact h
theorem run_ok (js : List S180) (fr pa : Int) (ws : List S143) (h : planOk fr pa ws = true) (hfr : fr ≤ 5000) (hn : js.length ≤ 20) (hj : ∀ x ∈ js, Jb pa x) (r : List Int × Int × Bool)
    (hr : Ev (fun k => impl_RunJobs.l0 k js (List.replicate js.length 0) (List.replicate js.length 0) (List.replicate js.length 0) 0 fr 0 fr pa ws) r) : Ev (fun k => impl_RunJobs.f k fr pa ws js fr) r := by
  obtain ⟨⟨hf, hp, hw⟩, hok⟩ := planOk_iff.1 h
  have hno : js.any (contains_Job.p (⟨fr, pa, ws⟩ : S30)) = false := by
    rw [List.any_eq_false]
    intro x hx
    obtain ⟨g1, g2, g3⟩ := hj x hx
    unfold contains_Job.p
    rw [w64 (x := (⟨fr, pa, ws⟩ : S30).f1 - 1) (by show _ ≤ pa - 1; omega) (by show pa - 1 ≤ _; omega)]
    have e1 : decide (x.f0 ≤ (⟨fr, pa, ws⟩ : S30).f1 - 1) = true := decide_eq_true g1.2
    rw [decide_eq_true g1.1, e1, decide_eq_true g2.1, decide_eq_true g2.2, decide_eq_true g3.1, decide_eq_true g3.2]
    decide
  refine Ev.get (x := false) (by unfold contains_Job.f; rw [hno]) ?_
  refine Ev.bind (impl_ok fr pa ws (by omega)) ?_
  refine Ev.pos h ?_
  refine Ev.neg (by simp) ?_
  refine Ev.neg (by omega) ?_
  refine Ev.get (in_im _ _ _) ?_
  rw [decide_eq_true (show 0 ≤ fr ∧ fr ≤ 5000 by omega)]
  refine Ev.step (fun k => by rw [impl_RunJobs.j0]) ?_
  refine Ev.neg (by simp) ?_
  refine Ev.pos (by omega) ?_
  refine Ev.pos (by omega) ?_
  rw [Int.toNat_natCast]
  exact hr
end Go.Proofs.Ytjgbjahpncfhhaa.WinRun
