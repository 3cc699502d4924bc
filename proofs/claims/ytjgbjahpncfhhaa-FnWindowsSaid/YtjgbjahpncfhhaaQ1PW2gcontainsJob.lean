import Derived.Test.YtjgbjahpncfhhaaQ1PW2x0
import Derived.Test.YtjgbjahpncfhhaaQ1PW2x1
import Derived.WalkSpells
import Derived.Test.YtjgbjahpncfhhaaQ1HK
namespace Go.Proofs.Ytjgbjahpncfhhaa.PW2
open Go.RowKit Go.Proofs.YtjgbjahpncfhhaaW.PrintWords Go.Proofs.YtjgbjahpncfhhaaW.PrintLast Go.Proofs.YtjgbjahpncfhhaaW.PrintMore Go.Proofs.Ytjgbjahpncfhhaa.HK
set_option linter.unusedVariables false
set_option linter.unusedSimpArgs false
def contains_Job.p (cap : S30) (x : S180) : Bool := !(decide (0 ≤ x.f0) && decide (x.f0 ≤ wrap64 (cap.f1 - 1))) || !(decide (1 ≤ x.f1) && decide (x.f1 ≤ 100000)) || !(decide (1 ≤ x.f2) && decide (x.f2 ≤ 100000))
set_option maxHeartbeats 4000000 in
set_option maxRecDepth 100000 in
theorem contains_Job.lit (x : S180) (gb : Nat) (A2 : Option Addr) (c2 : Nat) (cap : S30) (W : World) (hb : W.heap[gb]? = some (.cells #[.int .i64 cap.f0, .int .i64 cap.f1, .slice A2 cap.f2.length c2] 30 (0, 0))) :
    Calls Try.prog 110 #[.agg #[.int .i64 x.f0, .int .i64 x.f1, .int .i64 x.f2], .pointer (some ⟨gb, 0, none⟩)] W fun e W' => e = .returned (.bool (contains_Job.p cap x)) ∧ Below W.heap.size W W' := by
  have hgb : gb < W.heap.size := blk_lt hb
  have hin : ∀ a b c : Int, impl_in.f a b c = some (decide (b ≤ a) && decide (a ≤ c)) := by
    intro a b c
    unfold impl_in.f
    by_cases h : a ≥ b
    · rw [if_pos h, decide_eq_true h]; rfl
    · rw [if_neg h, decide_eq_false h]; rfl
  have hc0 := (blk_cell hb 0).trans rfl
  have hf0 := blk_frozen hb 0
  have hc1 := (blk_cell hb 1).trans rfl
  have hf1 := blk_frozen hb 1
  have hc2 := (blk_cell hb 2).trans rfl
  have hf2 := blk_frozen hb 2
  have HC0 : Aside0 (∀ W : World, Calls Try.prog 74 #[.int .i64 (x.f0), .int .i64 0, .int .i64 (wrap64 (cap.f1 - 1))] W fun e W' => e = .returned (.bool (decide (0 ≤ x.f0) && decide (x.f0 ≤ (wrap64 (cap.f1 - 1))))) ∧ Drawn0 W W') := ⟨fun W => impl_in.calls _ _ _ _ W (hin _ _ _)⟩
  have HC1 : Aside0 (∀ W : World, Calls Try.prog 74 #[.int .i64 (x.f1), .int .i64 1, .int .i64 100000] W fun e W' => e = .returned (.bool (decide (1 ≤ x.f1) && decide (x.f1 ≤ 100000))) ∧ Drawn0 W W') := ⟨fun W => impl_in.calls _ _ _ _ W (hin _ _ _)⟩
  have HC2 : Aside0 (∀ W : World, Calls Try.prog 74 #[.int .i64 (x.f2), .int .i64 1, .int .i64 100000] W fun e W' => e = .returned (.bool (decide (1 ≤ x.f2) && decide (x.f2 ≤ 100000))) ∧ Drawn0 W W') := ⟨fun W => impl_in.calls _ _ _ _ W (hin _ _ _)⟩
  have hp : contains_Job.p cap x = (!(decide (0 ≤ x.f0) && decide (x.f0 ≤ (wrap64 (cap.f1 - 1)))) || !(decide (1 ≤ x.f1) && decide (x.f1 ≤ 100000)) || !(decide (1 ≤ x.f2) && decide (x.f2 ≤ 100000))) := rfl
  rw [hp]
  clear hp hin hb
  generalize (decide (0 ≤ x.f0) && decide (x.f0 ≤ (wrap64 (cap.f1 - 1)))) = b0 at HC0 ⊢
  generalize (decide (1 ≤ x.f1) && decide (x.f1 ≤ 100000)) = b1 at HC1 ⊢
  generalize (decide (1 ≤ x.f2) && decide (x.f2 ≤ 100000)) = b2 at HC2 ⊢
  cases b0 <;> cases b1 <;> cases b2
  all_goals
    go_enter Try.func110, Try.ntmps110
    go_wp2_with (first | ((with_reducible refine gate_callee (f := 74) rfl ?_); refine goesL_ (some _) rfl rfl Try.func74 (by kernel_rfl) rfl #[.int .i64 (x.f0), .int .i64 0, .int .i64 (wrap64 (cap.f1 - 1))] rfl (by (try simp only [List.map_toArray, List.map_cons, List.map_nil]); first | done | rfl) ?_; (with_reducible refine (HC0.out _).mono ?_); rintro e w' ⟨rfl, ⟨nd, rfl⟩⟩; refine ⟨_, rfl, ?_⟩) | ((with_reducible refine gate_callee (f := 74) rfl ?_); refine goesL_ (some _) rfl rfl Try.func74 (by kernel_rfl) rfl #[.int .i64 (x.f1), .int .i64 1, .int .i64 100000] rfl (by (try simp only [List.map_toArray, List.map_cons, List.map_nil]); first | done | rfl) ?_; (with_reducible refine (HC1.out _).mono ?_); rintro e w' ⟨rfl, ⟨nd, rfl⟩⟩; refine ⟨_, rfl, ?_⟩) | ((with_reducible refine gate_callee (f := 74) rfl ?_); refine goesL_ (some _) rfl rfl Try.func74 (by kernel_rfl) rfl #[.int .i64 (x.f2), .int .i64 1, .int .i64 100000] rfl (by (try simp only [List.map_toArray, List.map_cons, List.map_nil]); first | done | rfl) ?_; (with_reducible refine (HC2.out _).mono ?_); rintro e w' ⟨rfl, ⟨nd, rfl⟩⟩; refine ⟨_, rfl, ?_⟩) | (go_at_call 74; (with_reducible refine (HC0.out _).mono ?_); rintro e w' ⟨rfl, ⟨nd, rfl⟩⟩) | (go_at_call 74; (with_reducible refine (HC1.out _).mono ?_); rintro e w' ⟨rfl, ⟨nd, rfl⟩⟩) | (go_at_call 74; (with_reducible refine (HC2.out _).mono ?_); rintro e w' ⟨rfl, ⟨nd, rfl⟩⟩))
    go_ret
    exact ⟨rfl, by repeat (first | exact Below.refl _ _ | apply below_alloc | apply pw_below_drewN | apply below_drew1)⟩
set_option maxHeartbeats 4000000 in
set_option maxRecDepth 100000 in
theorem contains_Job.idx (gb : Nat) (A2 : Option Addr) (c2 : Nat) (cap : S30) (A0 : Option Addr) (c0 : Nat) (l0 : List (S180)) (w : World) (hr0 : Kd.C k180 w A0 l0.length l0) (hb : w.heap[gb]? = some (.cells #[.int .i64 cap.f0, .int .i64 cap.f1, .slice A2 cap.f2.length c2] 30 (0, 0))) :
    Calls Try.prog 172 #[.slice A0 l0.length c0, .func (.func 110) #[] #[.pointer (some ⟨gb, 0, none⟩)]] w fun e w' => e = .returned (.int .i64 (idxOf (contains_Job.p cap) l0)) ∧ Below w.heap.size w w' := by
  have hu := Try.underlying180
  have HR := Aside0.mk hr0
  have hn : l0.length ≤ 9223372036854775807 := hr0.2.1
  have HBK := Aside0.mk hb; clear hb
  clear hr0
  go_enter Try.func172, Try.ntmps172
  go_wp2_with fail
  go_loopw [5, 8] (fun _ i wr => ∃ k : Nat, k ≤ l0.length ∧ i = .int .i64 k ∧ Aside0 (∀ (j : Nat) (hj : j < k) (hl : j < l0.length), contains_Job.p cap (l0[j]) = false) ∧ Aside0 (Below w.heap.size w wr)) (fun _ i _ => l0.length - (intOf i).toNat)
  case atStart => exact ⟨0, Nat.zero_le _, rfl, ⟨fun j hj => absurd hj (by omega)⟩, ⟨Below.refl _ _⟩⟩
  case round =>
    obtain ⟨k, hk, rfl, HN, HB⟩ := hrel
    by_cases hlt : k < l0.length
    · obtain ⟨ad, e, g0, g1, g2⟩ := at_T180 (Kd.C_below HR.out HB.out) (k : Int) (by omega) (by omega)
      subst e
      rw [Int.toNat_natCast] at g0 g1 g2
      generalize hx : rd_T180 l0 (k : Int) = x at g0 g1 g2
      have HX : Aside0 (l0[k] = x) := ⟨by rw [← hx]; simp [rd_T180, hlt]⟩
      clear hx
      cases hpx : contains_Job.p cap x with
      | true =>
        have HP := Aside0.mk hpx
        have HC := Aside0.mk (contains_Job.lit x gb A2 c2 cap wr (blk_below HBK.out HB.out))
        rw [hpx] at HC
        clear hpx
        go_wp2_with (go_at_call 110; (with_reducible refine HC.out.mono ?_); rintro e w' ⟨rfl, hb⟩)
        go_ret
        exact ⟨by rw [idxOf_hit _ l0 k hlt (fun j hj => HN.out j hj (by omega)) (by rw [HX.out]; exact HP.out)]; rfl, below_step HB.out hb⟩
      | false =>
        have HP := Aside0.mk hpx
        have HC := Aside0.mk (contains_Job.lit x gb A2 c2 cap wr (blk_below HBK.out HB.out))
        rw [hpx] at HC
        clear hpx
        go_wp2_with (go_at_call 110; (with_reducible refine HC.out.mono ?_); rintro e w' ⟨rfl, hb⟩)
        go_roundw
        case rel =>
          refine ⟨k + 1, by omega, by go_num, ⟨fun j hj hl => ?_⟩, ⟨below_step HB.out hb⟩⟩
          rcases Nat.lt_or_ge j k with h | h
          · exact HN.out j h hl
          · obtain rfl : j = k := by omega
            rw [HX.out]; exact HP.out
        case measure => simp [intOf]; omega
    · go_wp2_with fail
      go_ret
      exact ⟨by rw [idxOf_none _ l0 (fun j hj => HN.out j (by omega) hj)]; rfl, HB.out⟩
def contains_Job.f (l0 : List (S180)) (cap : S30) : Option Bool := some (l0.any (contains_Job.p cap))
set_option maxHeartbeats 4000000 in
set_option maxRecDepth 100000 in
theorem contains_Job.calls (A0 : Option Addr) (c0 : Nat) (l0 : List (S180)) (gb : Nat) (A2 : Option Addr) (c2 : Nat) (cap : S30) (r : Bool) (w : World) (hr0 : Kd.C k180 w A0 l0.length l0) (hc0 : l0.length ≤ c0) (hb : w.heap[gb]? = some (.cells #[.int .i64 cap.f0, .int .i64 cap.f1, .slice A2 cap.f2.length c2] 30 (0, 0))) (h : contains_Job.f l0 cap = some r) :
    Calls Try.prog 109 #[.slice A0 l0.length c0, .func (.func 110) #[] #[.pointer (some ⟨gb, 0, none⟩)]] w fun e w' => e = .returned (.bool r) ∧ Below w.heap.size w w' := by
  obtain rfl := Option.some.inj h
  have HC := Aside0.mk (contains_Job.idx gb A2 c2 cap A0 c0 l0 w hr0 hb)
  clear h hr0
  rcases idxOf_cases (contains_Job.p cap) l0 with ⟨he, hn⟩ | ⟨k, hk, he, hp, _⟩
  · rw [he] at HC
    have hr : l0.any (contains_Job.p cap) = false := by
      rw [List.any_eq_false]
      intro x hx
      obtain ⟨j, hj, rfl⟩ := List.mem_iff_getElem.1 hx
      rw [hn j hj]; decide
    rw [hr]
    clear he hn hr
    go_enter Try.func109, Try.ntmps109
    go_wp2_with (go_at_call 172; (with_reducible refine HC.out.mono ?_); rintro e w' ⟨rfl, hb⟩)
    go_ret
    exact ⟨rfl, hb⟩
  · rw [he] at HC
    have hr : l0.any (contains_Job.p cap) = true := List.any_eq_true.2 ⟨l0[k], List.getElem_mem hk, hp⟩
    rw [hr]
    clear he hp hr
    go_enter Try.func109, Try.ntmps109
    go_wp2_with (go_at_call 172; (with_reducible refine HC.out.mono ?_); rintro e w' ⟨rfl, hb⟩)
    go_ret
    exact ⟨rfl, hb⟩
end Go.Proofs.Ytjgbjahpncfhhaa.PW2
