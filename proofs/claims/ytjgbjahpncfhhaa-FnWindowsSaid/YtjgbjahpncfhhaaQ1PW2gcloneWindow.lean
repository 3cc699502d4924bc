import Derived.Test.YtjgbjahpncfhhaaQ1PW2x0
import Derived.WalkSpells
import Derived.Test.YtjgbjahpncfhhaaQ1HK
namespace Go.Proofs.Ytjgbjahpncfhhaa.PW2
open Go.RowKit Go.Proofs.YtjgbjahpncfhhaaW.PrintWords Go.Proofs.YtjgbjahpncfhhaaW.PrintLast Go.Proofs.YtjgbjahpncfhhaaW.PrintMore Go.Proofs.Ytjgbjahpncfhhaa.HK
set_option linter.unusedVariables false
set_option linter.unusedSimpArgs false
def clone_Window.f (l0 : List (S143)) : Option (List (S143)) := if l0.length < 5864062014805 then some l0 else none
theorem clone_Window.lit (w : World) : Kd.R k143 143 (w.alloc (.cells #[] 143)) w.heap.size (fun _ => True) (.slice (some ⟨w.heap.size, 0, none⟩) 0 0) [] :=
  ⟨fun _ _ => trivial, [], World.ownsRow_lit (base := w.heap.size) (e := 143) w #[] 0 (Nat.le_refl _) (by simp [maxLen]) (by simp), Reps.none _ _⟩
set_option maxHeartbeats 8000000 in
set_option maxRecDepth 100000 in
theorem clone_Window.calls (A0 : Option Addr) (c0 : Nat) (l0 : List (S143)) (r : List (S143)) (w : World) (hr0 : Kd.C k143 w A0 l0.length l0) (hc0 : l0.length ≤ c0) (h : clone_Window.f l0 = some r) :
    Calls Try.prog 76 #[.slice A0 l0.length c0] w fun e w' => ∃ v0_ : Value, e = .returned (v0_) ∧ Kd.R k143 143 w' w.heap.size (fun _ => True) v0_ r ∧ Below w.heap.size w w' := by
  have hu := Try.underlying28
  unfold clone_Window.f at h
  by_cases hl : l0.length < 5864062014805
  · rw [if_pos hl] at h
    obtain rfl := Option.some.inj h
    have HR0 := Aside0.mk hr0
    have HL := Aside0.mk hl
    clear hr0 h hl
    cases A0 with
    | none =>
      have h0 : l0 = [] := by
        have := HR0.out
        rcases Nat.eq_zero_or_pos l0.length with h0 | h0
        · exact List.eq_nil_of_length_eq_zero h0
        · obtain ⟨ad, h, _⟩ := this.2.2 h0
          cases h
      subst h0
      have heq := fun (W : World) => Lib.run_eql_slice_nil (P := Try.prog) W 28 143 none 0 c0 0 0 Try.underlying28
      clear HR0 HL hc0
      go_enter Try.func76, Try.ntmps76
      go_wp2_with fail
      go_ret
      exact ⟨_, rfl, Kd.R_nil _ _ _ _ _, Below.refl _ _⟩
    | some ad =>
      have heq := fun (W : World) => Lib.run_eql_slice_nil (P := Try.prog) W 28 143 (some ad) l0.length c0 0 0 Try.underlying28
      go_enter Try.func76, Try.ntmps76
      go_wp2_with (at_builtin; refine Kd.R_append_rows k143 (Rr := (k143).K (w.alloc (.cells #[] 143))) (w0 := w) w.heap.size rfl (.tmp 5) (.tmp 6) 28 143 (.agg #[(.int .i64 0), (.int .i64 0), (.int .i64 0)]) 24 rfl Try.underlying28 info143 rfl (by decide) (by omega) (.slice (some ⟨w.heap.size, 0, none⟩) 0 0) [] l0 _ _ _ (fun _ => True) (fun _ => False) rfl rfl ?aO ?aR ?aK (fun _ h => h.elim) ?aF ?aB ?aS ?aL ?_)
      case aO => exact clone_Window.lit w
      case aR => exact Kd.C_alloc HR0.out _
      case aK => intro x cs hK; obtain rfl := k143_open hK; exact k143_mkM _ _ _ _
      case aF => intro k _; trivial
      case aB => exact (Below.refl _ _).alloc (Nat.le_refl _) _
      case aS => simp
      case aL => have := HL.out; simp only [List.length_nil]; omega
      intro v1 w1 ho hb hg hat
      have HO := Aside0.mk ho
      have HB := Aside0.mk hb
      clear ho hb hg hat
      go_wp2_with fail
      go_ret
      exact ⟨v1, rfl, by simpa using HO.out, HB.out⟩
  · rw [if_neg hl] at h
    cases h
end Go.Proofs.Ytjgbjahpncfhhaa.PW2
