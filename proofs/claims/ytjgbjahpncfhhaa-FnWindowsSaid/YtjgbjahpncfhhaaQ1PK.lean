import Derived.Test.YtjgbjahpncfhhaaQ1WWords
import Derived.Test.YtjgbjahpncfhhaaQ1WLast
import Derived.IntWalk
namespace Go.Proofs.Ytjgbjahpncfhhaa.PK
open Go.RowKit Go.Proofs.YtjgbjahpncfhhaaW.PrintWords Go.Proofs.YtjgbjahpncfhhaaW.PrintLast
theorem Ev.const {α : Type} {a : Option α} {r : α} (h : a = some r) : Ev (fun _ => a) r := ⟨0, fun _ _ => h⟩
theorem Ev.pos {α : Type} {c : Prop} [Decidable c] {g f : Nat → Option α} {r : α} (h : c) (k : Ev g r) : Ev (fun n => if c then g n else f n) r :=
  Ev.congr (fun _ => if_pos h) k
theorem Ev.neg {α : Type} {c : Prop} [Decidable c] {g f : Nat → Option α} {r : α} (h : ¬ c) (k : Ev f r) : Ev (fun n => if c then g n else f n) r :=
  Ev.congr (fun _ => if_neg h) k
theorem Ev.get {α β : Type} {a : Option α} {x : α} {f : Nat → α → Option β} {r : β} (h : a = some x) (k : Ev (fun n => f n x) r) : Ev (fun n => a.bind (f n)) r :=
  Ev.bind (g := fun _ => a) (Ev.const h) k
theorem ev_up {σ β : Type} {g : Nat → σ → Int → Option β} {r : β} (n : Nat) (st : Nat → σ)
    (hstep : ∀ i, i < n → Ev (fun k => g k (st (i + 1)) ((i : Int) + 1)) r → Ev (fun k => g k (st i) (i : Int)) r)
    (hend : Ev (fun k => g k (st n) (n : Int)) r) : ∀ i, i ≤ n → Ev (fun k => g k (st i) (i : Int)) r := by
  intro i hi
  obtain ⟨m, rfl⟩ : ∃ m, n = i + m := ⟨n - i, by omega⟩
  induction m generalizing i with
  | zero => exact hend
  | succ m ih =>
    refine hstep i (by omega) ?_
    have h := ih (i + 1) (by intro j hj; exact hstep j (by omega)) (by rw [show i + 1 + m = i + (m + 1) by omega]; exact hend) (by omega)
    simpa using h
theorem w64 {x : Int} (h1 : -9223372036854775808 ≤ x) (h2 : x ≤ 9223372036854775807) : wrap64 x = x :=
  (i64_w x).symm.trans (IntWalk.i64_in _ ⟨h1, h2⟩)
theorem getD_at {α : Type} {xs : List α} {z : α} {i : Nat} (h : i < xs.length) : xs.getD ((i : Int).toNat) z = xs[i] := by
  simp [List.getD, h]
end Go.Proofs.Ytjgbjahpncfhhaa.PK
