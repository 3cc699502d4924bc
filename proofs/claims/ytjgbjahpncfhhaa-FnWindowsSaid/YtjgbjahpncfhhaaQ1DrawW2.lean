import Derived.Test.YtjgbjahpncfhhaaQ1PW2x
import Derived.Test.YtjgbjahpncfhhaaQ1PK
namespace Go.Proofs.Ytjgbjahpncfhhaa.Draw
open Go.RowKit Go.Proofs.YtjgbjahpncfhhaaW.PrintWords Go.Proofs.YtjgbjahpncfhhaaW.PrintLast Go.Proofs.YtjgbjahpncfhhaaW.PrintMore Go.Proofs.Ytjgbjahpncfhhaa.PK Go.Proofs.Ytjgbjahpncfhhaa.PW2
theorem and_le (x : Int) (m : Nat) (hm : m < 9223372036854775808) : 0 ≤ Go.bits .and .i64 x (m : Int) ∧ Go.bits .and .i64 x (m : Int) ≤ (m : Int) := by
  simp only [Go.bits]
  have h : (BitVec.ofInt IntKind.i64.bits x &&& BitVec.ofInt IntKind.i64.bits (m : Int)).toNat ≤ m := by
    rw [BitVec.toNat_and]
    refine Nat.le_trans Nat.and_le_right ?_
    rw [BitVec.ofInt_natCast, BitVec.toNat_ofNat]
    exact Nat.mod_le _ _
  rw [IntWalk.i64_in _ (by omega)]
  omega
theorem and255 (x : Int) : 0 ≤ Go.bits .and .i64 x 255 ∧ Go.bits .and .i64 x 255 ≤ 255 := and_le x 255 (by decide)
def Cur (l : List Int) (p : Int) : Prop := 0 ≤ p ∧ p ≤ (l.length : Int)
theorem byte_ok (l : List Int) (p s : Int) (hl : l.length ≤ 140737488351232) (hc : Cur l p) : ∃ b p' s', spec_l1Byte.f l p s = some (b, p', s') ∧ 0 ≤ b ∧ b ≤ 255 ∧ Cur l p' := by
  obtain ⟨h0, h1⟩ := hc
  unfold spec_l1Byte.f
  by_cases c : p < (l.length : Int)
  · rw [if_pos c, if_pos h0]
    exact ⟨_, _, _, rfl, (and255 _).1, (and255 _).2, by rw [w64 (by omega) (by omega)]; omega, by rw [w64 (by omega) (by omega)]; omega⟩
  · rw [if_neg c]
    exact ⟨_, _, _, rfl, (and255 _).1, (and255 _).2, h0, h1⟩
theorem tmod_ok (a n : Int) (h0 : 0 ≤ a) (hn : 0 < n) : 0 ≤ Int.tmod a n ∧ Int.tmod a n < n := by
  rw [Int.tmod_eq_emod_of_nonneg h0]
  exact ⟨Int.emod_nonneg _ (by omega), Int.emod_lt_of_pos _ hn⟩
theorem below_ok (l : List Int) (p s n : Int) (hl : l.length ≤ 140737488351232) (hc : Cur l p) :
    ∃ v p' s', spec_l1Below.f l p s n = some (v, p', s') ∧ Cur l p' ∧ 0 ≤ v ∧ (0 < n → v < n) ∧ (n ≤ 0 → v = 0) := by
  unfold spec_l1Below.f
  by_cases c : n ≤ 0
  · rw [if_pos c]
    exact ⟨_, _, _, rfl, hc, Int.le_refl _, fun h => by omega, fun _ => rfl⟩
  · rw [if_neg c]
    by_cases c2 : n ≤ 256
    · rw [if_pos c2]
      obtain ⟨b, p1, s1, e1, h0, h1, hc1⟩ := byte_ok l p s hl hc
      rw [e1, Option.bind_some, if_neg (by omega)]
      obtain ⟨t0, t1⟩ := tmod_ok b n h0 (by omega)
      exact ⟨_, _, _, rfl, hc1, t0, fun _ => t1, fun h => by omega⟩
    · rw [if_neg c2]
      obtain ⟨b1, p1, s1, e1, h10, h11, hc1⟩ := byte_ok l p s hl hc
      rw [e1, Option.bind_some]
      obtain ⟨b2, p2, s2, e2, h20, h21, hc2⟩ := byte_ok l p1 s1 hl hc1
      rw [e2, Option.bind_some]
      obtain ⟨b3, p3, s3, e3, h30, h31, hc3⟩ := byte_ok l p2 s2 hl hc2
      rw [e3, Option.bind_some]
      obtain ⟨b4, p4, s4, e4, h40, h41, hc4⟩ := byte_ok l p3 s3 hl hc3
      rw [e4, Option.bind_some, if_neg (by omega)]
      dsimp only
      have hw : wrap64 ((wrap64 ((wrap64 ((wrap64 (b1 * 16777216)) + (wrap64 (b2 * 65536)))) + (wrap64 (b3 * 256)))) + b4) = b1 * 16777216 + b2 * 65536 + b3 * 256 + b4 := by
        rw [w64 (x := b1 * 16777216) (by omega) (by omega), w64 (x := b2 * 65536) (by omega) (by omega), w64 (x := b3 * 256) (by omega) (by omega), w64 (x := b1 * 16777216 + b2 * 65536) (by omega) (by omega), w64 (x := b1 * 16777216 + b2 * 65536 + b3 * 256) (by omega) (by omega), w64 (by omega) (by omega)]
      rw [hw]
      obtain ⟨t0, t1⟩ := tmod_ok (b1 * 16777216 + b2 * 65536 + b3 * 256 + b4) n (by omega) (by omega)
      exact ⟨_, _, _, rfl, hc4, t0, fun _ => t1, fun h => by omega⟩
theorem new_ok (l : List Int) (_ : l.length ≤ 140737488351232) : ∃ s, Ev (fun k => spec_l1New.f k l) (l, 0, s) := by
  have h : ∀ m i s, i + m = l.length → ∃ s', Ev (fun k => spec_l1New.l0 k l s (i : Int)) (l, 0, s') := by
    intro m
    induction m with
    | zero =>
      intro i s hi
      refine ⟨s, Ev.step (fun k => by rw [spec_l1New.l0]) ?_⟩
      exact Ev.neg (by omega) (Ev.now _)
    | succ m ih =>
      intro i s hi
      by_cases c : (i : Int) < 4000
      · obtain ⟨s', h⟩ := ih (i + 1) (Go.bits .and .i64 (wrap64 ((wrap64 ((wrap64 (s * 131)) + (wrap64 (rd l (i : Int))))) + 7)) 1073741823) (by omega)
        refine ⟨s', Ev.step (fun k => by rw [spec_l1New.l0]) ?_⟩
        refine Ev.pos (by omega) ?_
        refine Ev.pos c ?_
        refine Ev.pos (by omega) ?_
        rw [w64 (x := (i : Int) + 1) (by omega) (by omega)]
        exact h
      · refine ⟨s, Ev.step (fun k => by rw [spec_l1New.l0]) ?_⟩
        refine Ev.pos (by omega) ?_
        exact Ev.neg c (Ev.now _)
  exact h l.length 0 _ (by omega)
end Go.Proofs.Ytjgbjahpncfhhaa.Draw
