import Derived.Test.YtjgbjahpncfhhaaQ1DrawW2
import Derived.Test.YtjgbjahpncfhhaaQ1ImplPlanW2
namespace Go.Proofs.Ytjgbjahpncfhhaa.WinDraw
open Go.RowKit Go.Proofs.YtjgbjahpncfhhaaW.PrintWords Go.Proofs.YtjgbjahpncfhhaaW.PrintLast Go.Proofs.YtjgbjahpncfhhaaW.PrintMore Go.Proofs.Ytjgbjahpncfhhaa.PK Go.Proofs.Ytjgbjahpncfhhaa.PW2 Go.Proofs.Ytjgbjahpncfhhaa.PlanOk Go.Proofs.Ytjgbjahpncfhhaa.Draw
def okTo (pa till : Int) : Int → List S143 → Prop
  | e, [] => e ≤ till
  | e, x :: t => (0 ≤ x.f0 ∧ x.f0 ≤ pa - 1) ∧ (1 ≤ x.f2 ∧ x.f2 ≤ 10000) ∧ e ≤ x.f1 ∧ okTo pa till (x.f1 + x.f2) t
theorem okTo_from (fr pa till : Int) (hf : till ≤ fr) : ∀ (l : List S143) (e : Int), okTo pa till e l → okFrom fr pa e l = true
  | [], _, _ => rfl
  | x :: t, e, h => by
    obtain ⟨h1, h2, h3, h4⟩ := h
    have hle : ∀ (l : List S143) (e : Int), okTo pa till e l → e ≤ till := by
      intro l
      induction l with
      | nil => intro e h; exact h
      | cons y t ih => intro e h; obtain ⟨_, q2, q3, q4⟩ := h; have := ih _ q4; omega
    have h5 := hle t _ h4
    unfold okFrom
    rw [if_pos ⟨h1, h2, h3, by omega⟩]
    exact okTo_from fr pa till hf t _ h4
theorem okTo_snoc (pa p till till' long : Int) (hp : 0 ≤ p ∧ p ≤ pa - 1) (hl : 1 ≤ long ∧ long ≤ 10000) (ht : till + long ≤ till') : ∀ (l : List S143) (e : Int), okTo pa till e l → okTo pa till' e (l ++ [⟨p, till, long⟩])
  | [], e, h => ⟨hp, hl, h, ht⟩
  | x :: t, e, h => by
    obtain ⟨h1, h2, h3, h4⟩ := h
    exact ⟨h1, h2, h3, okTo_snoc pa p till till' long hp hl ht t _ h4⟩
theorem draw_loop (l : List Int) (hl : l.length ≤ 140737488351232) (pa : Int) (hp : 1 ≤ pa ∧ pa ≤ 4) : ∀ (m : Nat) (at_ p s : Int) (ws : List S143), m ≤ 6 → 0 ≤ at_ → at_ ≤ 4 + 12 * (6 - (m : Int)) → ws.length + m ≤ 6 → Cur l p → okTo pa at_ 0 ws →
    ∃ fr ws' p' s', Ev (fun k => spec_l17Draw.l0 k at_ (m : Int) l p s 0 pa ws) (fr, pa, ws', p', s') ∧ 1 ≤ fr ∧ fr ≤ 100 ∧ ws'.length ≤ 6 ∧ okFrom fr pa 0 ws' = true ∧ Cur l p' := by
  intro m
  induction m with
  | zero =>
    intro at_ p s ws _ h0 h1 h2 hc hok
    obtain ⟨v, p1, s1, e1, hc1, v0, v1, _⟩ := below_ok l p s 10 hl hc
    have v1 := v1 (by omega)
    refine ⟨at_ + 1 + v, ws, p1, s1, ?_, by omega, by omega, by omega, okTo_from _ _ _ (by omega) _ _ hok, hc1⟩
    refine Ev.step (fun k => by rw [spec_l17Draw.l0]) ?_
    refine Ev.neg (by omega) ?_
    refine Ev.get e1 ?_
    rw [w64 (x := at_ + 1) (by omega) (by omega), w64 (by simp only; omega) (by simp only; omega)]
    exact Ev.now _
  | succ m ih =>
    intro at_ p s ws hm h0 h1 h2 hc hok
    obtain ⟨a, p1, s1, e1, hc1, a0, a1, _⟩ := below_ok l p s 8 hl hc
    have a1 := a1 (by omega)
    obtain ⟨b, p2, s2, e2, hc2, b0, b1, _⟩ := below_ok l p1 s1 pa hl hc1
    have b1 := b1 (by omega)
    obtain ⟨c, p3, s3, e3, hc3, c0, c1, _⟩ := below_ok l p2 s2 5 hl hc2
    have c1 := c1 (by omega)
    obtain ⟨d, p4, s4, e4, hc4, d0, d1, _⟩ := below_ok l p3 s3 2 hl hc3
    have d1 := d1 (by omega)
    have hcd : 0 ≤ c * d ∧ c * d ≤ 4 := by
      have hd : d = 0 ∨ d = 1 := by omega
      rcases hd with rfl | rfl <;> omega
    have hs := okTo_snoc pa b at_ (at_ + (1 + a) + c * d) (1 + a) (by omega) (by omega) (by omega) ws 0 hok
    obtain ⟨fr, ws', p', s', hev, r⟩ := ih (at_ + (1 + a) + c * d) p4 s4 (ws ++ [⟨b, at_, 1 + a⟩]) (by omega) (by omega) (by omega) (by simp; omega) hc4 hs
    refine ⟨fr, ws', p', s', ?_, r⟩
    refine Ev.step (fun k => by rw [spec_l17Draw.l0]) ?_
    refine Ev.pos (by omega) ?_
    refine Ev.get e1 ?_
    refine Ev.get e2 ?_
    refine Ev.pos (by omega) ?_
    refine Ev.get e3 ?_
    refine Ev.get e4 ?_
    dsimp only
    rw [w64 (x := 1 + a) (by omega) (by omega), w64 (x := c * d) (by omega) (by omega), w64 (x := at_ + (1 + a)) (by omega) (by omega), w64 (x := at_ + (1 + a) + c * d) (by omega) (by omega), w64 (x := ((m + 1 : Nat) : Int) - 1) (by omega) (by omega), show ((m + 1 : Nat) : Int) - 1 = (m : Int) by omega]
    exact hev
def Jb (pa : Int) (x : S180) : Prop := (0 ≤ x.f0 ∧ x.f0 ≤ pa - 1) ∧ (1 ≤ x.f1 ∧ x.f1 ≤ 100000) ∧ (1 ≤ x.f2 ∧ x.f2 ≤ 100000)
theorem max1 (pa : Int) (hp : 1 ≤ pa) : spec_l1Max.f 1 pa = some pa := by
  unfold spec_l1Max.f
  by_cases h : (1 : Int) > pa
  · omega
  · rw [if_neg h]
theorem jobs_loop (l : List Int) (hl : l.length ≤ 140737488351232) (pa : Int) (hp : 1 ≤ pa ∧ pa ≤ 4) : ∀ (m : Nat) (p s : Int) (js : List S180), js.length + m ≤ 5 → Cur l p → (∀ x ∈ js, Jb pa x) →
    ∃ js' p' s', Ev (fun k => spec_l17DrawJobs.l0 k pa js (m : Int) l p s) (js', p', s') ∧ js'.length ≤ 5 ∧ ∀ x ∈ js', Jb pa x := by
  intro m
  induction m with
  | zero =>
    intro p s js h2 hc hj
    refine ⟨js, p, s, ?_, by omega, hj⟩
    refine Ev.step (fun k => by rw [spec_l17DrawJobs.l0]) ?_
    exact Ev.neg (by omega) (Ev.now _)
  | succ m ih =>
    intro p s js h2 hc hj
    obtain ⟨b, p2, s2, e2, hc2, b0, b1, _⟩ := below_ok l p s pa hl hc
    have b1 := b1 (by omega)
    obtain ⟨c, p3, s3, e3, hc3, c0, c1, _⟩ := below_ok l p2 s2 60 hl hc2
    have c1 := c1 (by omega)
    obtain ⟨d, p4, s4, e4, hc4, d0, d1, _⟩ := below_ok l p3 s3 12 hl hc3
    have d1 := d1 (by omega)
    obtain ⟨js', p', s', hev, r⟩ := ih p4 s4 (js ++ [⟨b, 1 + c, 1 + d⟩]) (by simp; omega) hc4 (by
      intro x hx
      rcases List.mem_append.1 hx with hx | hx
      · exact hj x hx
      · rw [List.mem_singleton.1 hx]; exact ⟨by show 0 ≤ b ∧ b ≤ pa - 1; omega, by show 1 ≤ 1 + c ∧ 1 + c ≤ 100000; omega, by show 1 ≤ 1 + d ∧ 1 + d ≤ 100000; omega⟩)
    refine ⟨js', p', s', ?_, r⟩
    refine Ev.step (fun k => by rw [spec_l17DrawJobs.l0]) ?_
    refine Ev.pos (by omega) ?_
    refine Ev.get (max1 pa hp.1) ?_
    refine Ev.get e2 ?_
    refine Ev.get e3 ?_
    refine Ev.get e4 ?_
    refine Ev.pos (by omega) ?_
    dsimp only
    rw [w64 (x := 1 + c) (by omega) (by omega), w64 (x := 1 + d) (by omega) (by omega), w64 (x := ((m + 1 : Nat) : Int) - 1) (by omega) (by omega), show ((m + 1 : Nat) : Int) - 1 = (m : Int) by omega]
    exact hev
theorem draw_ok (l : List Int) (hl : l.length ≤ 140737488351232) : ∃ fr pa ws js, Ev (fun k => spec_DrawPlan17.f k l) (fr, pa, ws, js) ∧ (1 ≤ fr ∧ fr ≤ 100) ∧ (1 ≤ pa ∧ pa ≤ 4) ∧ ws.length ≤ 6 ∧ okFrom fr pa 0 ws = true ∧ js.length ≤ 5 ∧ ∀ x ∈ js, Jb pa x := by
  obtain ⟨s0, hnew⟩ := new_ok l hl
  have hc0 : Cur l 0 := ⟨by omega, by omega⟩
  obtain ⟨a, p1, s1, e1, hc1, a0, a1, _⟩ := below_ok l 0 s0 4 hl hc0
  have a1 := a1 (by omega)
  obtain ⟨b, p2, s2, e2, hc2, b0, b1, _⟩ := below_ok l p1 s1 5 hl hc1
  have b1 := b1 (by omega)
  obtain ⟨c, p3, s3, e3, hc3, c0, c1, _⟩ := below_ok l p2 s2 7 hl hc2
  have c1 := c1 (by omega)
  obtain ⟨m, rfl⟩ := Int.eq_ofNat_of_zero_le c0
  obtain ⟨fr, ws, p4, s4, hev, f0, f1, hn, hok, hc4⟩ := draw_loop l hl (1 + a) (by omega) m b p3 s3 [] (by omega) b0 (by omega) (by simp; omega) hc3 b0
  obtain ⟨d, p5, s5, e5, hc5, d0, d1, _⟩ := below_ok l p4 s4 6 hl hc4
  have d1 := d1 (by omega)
  obtain ⟨q, rfl⟩ := Int.eq_ofNat_of_zero_le d0
  obtain ⟨js, p6, s6, hev2, hj, hjb⟩ := jobs_loop l hl (1 + a) (by omega) q p5 s5 [] (by simp; omega) hc5 (by simp)
  refine ⟨fr, 1 + a, ws, js, ?_, by omega, by omega, hn, hok, hj, hjb⟩
  refine Ev.bind hnew ?_
  refine Ev.bind (a := (fr, 1 + a, ws, p4, s4)) ?_ ?_
  · refine Ev.get e1 ?_
    refine Ev.get e2 ?_
    refine Ev.get e3 ?_
    dsimp only
    rw [w64 (x := 1 + a) (by omega) (by omega)]
    exact hev
  · refine Ev.bind (a := (js, p6, s6)) ?_ (Ev.now _)
    refine Ev.get e5 ?_
    exact hev2
end Go.Proofs.Ytjgbjahpncfhhaa.WinDraw
