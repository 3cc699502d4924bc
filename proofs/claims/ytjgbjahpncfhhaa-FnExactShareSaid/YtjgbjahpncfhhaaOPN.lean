/- From a datum that can be read to the print's words: each type's cells are those of a value of its Lean type, whose numbers are of their kinds. No conditions. -/
import Derived.Test.YtjgbjahpncfhhaaWWords
import Derived.Deep.Slices
import Derived.ChangeArms
namespace Go.Proofs.Ytjgbjahpncfhhaa.OPN
open Go.RowKit Go.Proofs.YtjgbjahpncfhhaaW.PrintWords Go.ChangeShapes Go.WideShapes Go.Deep
set_option linter.unusedVariables false

/-- Whatever reads as a datum of type T is a value of kind d of which B holds. -/
structure Opens {α : Type} (P : Program) (T : TypeId) (d : Kd α) (B : α → Prop) : Prop where
  op : ∀ {H : Type} {enc : TypeId × Value → H} {w : World} {base : Nat} {spare : Nat → Bool} {held : Bool} {fuel : Nat} {cs : List Value} {x : DataW H × List MemPlace},
    DataW.trod enc P w base spare held fuel T cs = some x → ∃ a, d.K w a cs ∧ B a
theorem Opens.int {P : Program} {T : TypeId} {k : IntKind} (h : P.underlying T = some (.int k)) : Opens P T (Kd.int k) (fun n => (Lit.int k n).wf = true) := ⟨fun hx => by
  obtain ⟨n, rfl, _, hw⟩ := DataW.trod_int h hx
  exact ⟨n, rfl, hw⟩⟩
theorem Opens.bool {P : Program} {T : TypeId} (h : P.underlying T = some .bool) : Opens P T Kd.bool (fun _ => True) := ⟨fun hx => by
  obtain ⟨n, rfl, _⟩ := DataW.trod_bool h hx
  exact ⟨n, rfl, trivial⟩⟩
theorem Opens.string {P : Program} {T : TypeId} (h : P.underlying T = some .string) : Opens P T Kd.string (fun s => s.size ≤ 9223372036854775807) := ⟨fun hx => by
  obtain ⟨n, rfl, _, hw⟩ := DataW.trod_string h hx
  exact ⟨n, rfl, by simpa [maxLen] using hw⟩⟩
theorem Opens.slice {α : Type} {P : Program} {T e : TypeId} {d : Kd α} {B : α → Prop} (h : P.underlying T = some (.slice e)) (hs : P.cellsOf e = d.sz) (ho : Opens P e d B) :
    Opens P T (Kd.slice e d) (fun l => l.length ≤ 9223372036854775807 ∧ ∀ x ∈ l, B x) := ⟨fun {H enc w base spare held fuel cs x} hx => by
  rcases open_slice h hx with ⟨rfl, _⟩ | ⟨a, len, cap, m, n, D, Pl, rfl, hb, hl, hm, hmm, hxx, hi⟩
  · exact ⟨[], ⟨none, 0, rfl, Nat.le_refl _, ⟨rfl, by simp, fun h0 => absurd h0 (by simp)⟩⟩, by simp⟩
  · have hlm : len ≤ m := by rw [hmm]; split <;> omega
    have hcm : cap ≤ 9223372036854775807 := by simpa [maxLen] using hm
    have build : ∀ k, k ≤ len → ∃ l : List α, l.length = k ∧ ∀ j p, l[j]? = some p → B p ∧ ∃ c : List Value, c.length = d.sz ∧ d.K w p c ∧ ∀ i u, c[i]? = some u → w.cell? (a.add (j * d.sz + i)) = some u := by
      intro k
      induction k with
      | zero => intro _; exact ⟨[], rfl, by simp⟩
      | succ k ih =>
        intro hk
        obtain ⟨l, hll, hlp⟩ := ih (by omega)
        obtain ⟨cs', hc, ht⟩ := hi k (by omega)
        obtain ⟨y, hK, hB⟩ := ho.op ht
        rw [hs] at hc
        obtain ⟨_, hcl, hat⟩ := World.cells?_some hc
        refine ⟨l ++ [y], by simp [hll], fun j p hj => ?_⟩
        rcases Nat.lt_or_ge j k with hjk | hjk
        · rw [List.getElem?_append_left (by omega)] at hj
          exact hlp j p hj
        · have hjl := (List.getElem?_eq_some_iff.1 hj).1
          rw [List.length_append, List.length_singleton] at hjl
          obtain rfl : j = k := by omega
          have hy : y = p := by
            rw [List.getElem?_append_right (by omega), hll, Nat.sub_self] at hj
            simpa using hj
          subst hy
          refine ⟨hB, cs', d.K_len hK, hK, fun i u hu => ?_⟩
          have hi' : i < d.sz := by have := (List.getElem?_eq_some_iff.1 hu).1; have := d.K_len hK; omega
          have h2 := hat i hi'
          rw [Deep.add_add] at h2
          rw [h2, hu]
    obtain ⟨l, hll, hlp⟩ := build len (Nat.le_refl _)
    refine ⟨l, ⟨some a, cap, by rw [hll], by rw [hll]; exact hl, ⟨rfl, by omega, fun _ => ⟨a, rfl, fun j p hj => (hlp j p hj).2⟩⟩⟩, by omega, fun x hx => ?_⟩
    obtain ⟨j, hj, rfl⟩ := List.mem_iff_getElem.1 hx
    exact (hlp j _ (List.getElem?_eq_getElem hj)).1⟩

/-- The fields of a struct from the j-th on. -/
structure Fields {α : Type} (P : Program) (fs : Array Field) (j off : Nat) (d : Kd α) (B : α → Prop) : Prop where
  op : ∀ {H : Type} {enc : TypeId × Value → H} {w : World} {base : Nat} {spare : Nat → Bool} {held : Bool} {n : Nat} {cs : List Value} {xs : List (DataW H × List MemPlace)},
    cs.length = off + d.sz → xs.length = fs.size → (∀ (i : Nat) (f : Field), fs[i]? = some f → DataW.trod enc P w base spare held n f.type ((cs.drop f.offset).take (P.cellsOf f.type)) = xs[i]?) → ∃ a, d.K w a (cs.drop off) ∧ B a
theorem Fields.last {α : Type} {P : Program} {fs : Array Field} {j off : Nat} {d : Kd α} {B : α → Prop} (f : Field) (hf : fs[j]? = some f) (ho : Opens P f.type d B) (h1 : f.offset = off) (h2 : P.cellsOf f.type = d.sz) : Fields P fs j off d B := ⟨fun hcs hxs h => by
  have hj : j < fs.size := (Array.getElem?_eq_some_iff.1 hf).1
  have h3 := h j f hf
  rw [h1, h2, List.getElem?_eq_getElem (by omega)] at h3
  obtain ⟨a, hK, hB⟩ := ho.op h3
  rw [List.take_of_length_le (by rw [List.length_drop]; omega)] at hK
  exact ⟨a, hK, hB⟩⟩
theorem Fields.cons {α β : Type} {P : Program} {fs : Array Field} {j off : Nat} {d : Kd α} {d' : Kd β} {B : α → Prop} {B' : β → Prop} (f : Field) (hf : fs[j]? = some f) (ho : Opens P f.type d B) (h1 : f.offset = off) (h2 : P.cellsOf f.type = d.sz) (ht : Fields P fs (j + 1) (off + d.sz) d' B') :
    Fields P fs j off (Kd.pair d d') (fun x => B x.1 ∧ B' x.2) := ⟨fun {H enc w base spare held n cs xs} hcs hxs h => by
  have hcs' : cs.length = off + (d.sz + d'.sz) := hcs
  have hj : j < fs.size := (Array.getElem?_eq_some_iff.1 hf).1
  have h3 := h j f hf
  rw [h1, h2, List.getElem?_eq_getElem (by omega)] at h3
  obtain ⟨a, hK, hB⟩ := ho.op h3
  obtain ⟨b, hK', hB'⟩ := ht.op (by omega) hxs h
  refine ⟨(a, b), ⟨_, _, ?_, hK, hK'⟩, hB, hB'⟩
  rw [← List.drop_drop, List.take_append_drop]⟩
theorem Opens.struct {α β : Type} {P : Program} {T : TypeId} {fs : Array Field} {d : Kd α} {B : α → Prop} (h : P.underlying T = some (.struct fs)) (hC : P.cellsOf T = d.sz) (hf : Fields P fs 0 0 d B) (f : β → α) (mk : α → β) (hmk : ∀ a, f (mk a) = a) :
    Opens P T (Kd.iso d f) (fun x => B (f x)) := ⟨fun hx => by
  obtain ⟨xs, n, _, _, hl, hxl, hg⟩ := DataW.trod_struct h hx
  obtain ⟨a, hK, hB⟩ := hf.op (by rw [hl, hC]; omega) hxl hg
  rw [List.drop_zero] at hK
  exact ⟨mk a, by show d.K _ (f (mk a)) _; rw [hmk]; exact hK, by rw [hmk]; exact hB⟩⟩
end Go.Proofs.Ytjgbjahpncfhhaa.OPN
