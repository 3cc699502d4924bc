/- Plain lemmas for the pure statements: runs of a meaning with a number of rounds, loops that count up, rows written one by one. Conditions: none. -/
import Derived.Test.YtjgbjahpncfhhaaWWords
import Derived.Test.YtjgbjahpncfhhaaWLast
import Derived.IntWalk
namespace Go.Proofs.Ytjgbjahpncfhhaa.PK
open Go.RowKit Go.Proofs.YtjgbjahpncfhhaaW.PrintWords Go.Proofs.YtjgbjahpncfhhaaW.PrintLast
theorem Ev.const {α : Type} {a : Option α} {r : α} (h : a = some r) : Ev (fun _ => a) r := ⟨0, fun _ _ => h⟩
theorem Ev.pos {α : Type} {c : Prop} [Decidable c] {g f : Nat → Option α} {r : α} (h : c) (k : Ev g r) : Ev (fun n => if c then g n else f n) r :=
  Ev.congr (fun _ => if_pos h) k
theorem Ev.neg {α : Type} {c : Prop} [Decidable c] {g f : Nat → Option α} {r : α} (h : ¬ c) (k : Ev f r) : Ev (fun n => if c then g n else f n) r :=
  Ev.congr (fun _ => if_neg h) k
theorem Ev.get {α β : Type} {a : Option α} {x : α} {f : Nat → α → Option β} {r : β} (h : a = some x) (k : Ev (fun n => f n x) r) : Ev (fun n => a.bind (f n)) r :=
  Ev.bind (g := fun _ => a) (Ev.const h) k
/-- A loop that counts up: its states by the count. -/
theorem ev_up {σ β : Type} {g : Nat → σ → Int → Option β} {r : β} (n : Nat) (st : Nat → σ)
    (hstep : ∀ i, i < n → Ev (fun k => g k (st (i + 1)) ((i : Int) + 1)) r → Ev (fun k => g k (st i) (i : Int)) r)
    (hend : Ev (fun k => g k (st n) (n : Int)) r) : ∀ i, i ≤ n → Ev (fun k => g k (st i) (i : Int)) r := by
  intro i hi
  obtain ⟨m, rfl⟩ : ∃ m, n = i + m := ⟨n - i, by omega⟩
  induction m generalizing i with
  | zero => exact hend
  | succ m ih =>
    refine hstep i (by omega) ?_
    have h := ih (i + 1) (by intro j hj; exact hstep j (by omega)) (by rw [show i + 1 + m = i + (m + 1) by omega]; exact hend) (by omega)
    simpa using h
theorem w64 {x : Int} (h1 : -9223372036854775808 ≤ x) (h2 : x ≤ 9223372036854775807) : wrap64 x = x :=
  (i64_w x).symm.trans (IntWalk.i64_in _ ⟨h1, h2⟩)
/-- A row filled from the left, one more. -/
theorem fill_set {α β : Type} (f : α → β) (z : β) (xs : List α) (i : Nat) (h : i < xs.length) :
    ((xs.take i).map f ++ List.replicate (xs.length - i) z).set i (f xs[i]) = (xs.take (i + 1)).map f ++ List.replicate (xs.length - (i + 1)) z := by
  have hl : ((xs.take i).map f).length = i := by simp; omega
  rw [List.set_append_right _ _ (by omega), hl, Nat.sub_self]
  rw [show xs.length - i = (xs.length - (i + 1)) + 1 by omega, List.replicate_succ, List.set_cons_zero]
  rw [List.take_succ_eq_append_getElem h, List.map_append, List.append_assoc]
  rfl
theorem fill_len {α β : Type} (f : α → β) (z : β) (xs : List α) (i : Nat) (h : i ≤ xs.length) :
    ((xs.take i).map f ++ List.replicate (xs.length - i) z).length = xs.length := by
  simp; omega
theorem fill_end {α β : Type} (f : α → β) (z : β) (xs : List α) : (xs.take xs.length).map f ++ List.replicate (xs.length - xs.length) z = xs.map f := by
  simp
theorem fill_start {α β : Type} (f : α → β) (z : β) (xs : List α) : List.replicate xs.length z = (xs.take 0).map f ++ List.replicate (xs.length - 0) z := by
  simp
/-- A row marked from the left, one more. -/
theorem mark_set {β : Type} (F : Nat → β) (xs : List β) (i : Nat) (h : i < xs.length) :
    ((List.range i).map F ++ xs.drop i).set i (F i) = (List.range (i + 1)).map F ++ xs.drop (i + 1) := by
  have hl : ((List.range i).map F).length = i := by simp
  rw [List.set_append_right _ _ (by omega), hl, Nat.sub_self, List.drop_eq_getElem_cons h, List.set_cons_zero, List.range_succ, List.map_append, List.append_assoc]
  rfl
theorem getD_at {α : Type} {xs : List α} {z : α} {i : Nat} (h : i < xs.length) : xs.getD ((i : Int).toNat) z = xs[i] := by
  simp [List.getD, h]
end Go.Proofs.Ytjgbjahpncfhhaa.PK
