import Derived.Test.YtjgbjahpncfhhaaQ1WWords
import Derived.Test.YtjgbjahpncfhhaaQ1WKept
import Derived.WalkSpells
import Derived.Lib.SliceRun
import Derived.Lib.Overlaps
import Derived.Laws.CopyOwn
namespace Go.Proofs.Ytjgbjahpncfhhaa.HK
open Go.RowKit Go.Proofs.YtjgbjahpncfhhaaW.PrintWords
set_option linter.unusedVariables false
set_option linter.unusedSimpArgs false
def idxOf {α : Type} (p : α → Bool) (l : List α) : Int := match l.findIdx? p with | some i => (i : Int) | none => -1
theorem idxOf_hit {α : Type} (p : α → Bool) (l : List α) (k : Nat) (hk : k < l.length) (h : ∀ (j : Nat) (hj : j < k), p (l[j]'(by omega)) = false) (hp : p l[k] = true) : idxOf p l = k := by
  have : l.findIdx? p = some k := by
    rw [List.findIdx?_eq_some_iff_getElem]
    exact ⟨hk, hp, fun j hj => by simp [h j hj]⟩
  simp [idxOf, this]
theorem idxOf_none {α : Type} (p : α → Bool) (l : List α) (h : ∀ (j : Nat) (hj : j < l.length), p (l[j]'hj) = false) : idxOf p l = -1 := by
  have : l.findIdx? p = none := by
    rw [List.findIdx?_eq_none_iff]
    intro x hx
    obtain ⟨j, hj, rfl⟩ := List.mem_iff_getElem.1 hx
    exact h j hj
  simp [idxOf, this]
theorem idxOf_cases {α : Type} (p : α → Bool) (l : List α) :
    (idxOf p l = -1 ∧ ∀ (j : Nat) (hj : j < l.length), p (l[j]'hj) = false) ∨
    ∃ (k : Nat) (hk : k < l.length), idxOf p l = k ∧ p l[k] = true ∧ ∀ (j : Nat) (hj : j < k), p (l[j]'(by omega)) = false := by
  cases h : l.findIdx? p with
  | none =>
    rw [List.findIdx?_eq_none_iff] at h
    exact .inl ⟨idxOf_none p l (fun j hj => h _ (List.getElem_mem hj)), fun j hj => h _ (List.getElem_mem hj)⟩
  | some k =>
    rw [List.findIdx?_eq_some_iff_getElem] at h
    obtain ⟨hk, hp, hn⟩ := h
    exact .inr ⟨k, hk, idxOf_hit p l k hk (fun j hj => by simpa using hn j hj) hp, hp, fun j hj => by simpa using hn j hj⟩
section
variable {α : Type} {d : Kd α} {e base n cap g : Nat} {ok okp : Nat → Prop} {W w1 : World} {xs ys : List α}
theorem R_raw (h : d.R e W base ok (.slice (some ⟨g, 0, none⟩) n cap) xs) :
    n = xs.length ∧ n ≤ cap ∧ cap ≤ maxLen ∧ base ≤ g ∧ ok g ∧ ∃ cur : Array Value, W.heap[g]? = some (.cells cur e (0, 0)) ∧ cur.size = cap * d.sz ∧
      Reps (d.M W base (fun k => ok k ∧ k ≠ g)) d.sz xs (cur.toList.take (xs.length * d.sz)) := by
  obtain ⟨h0, inner, ho, hr⟩ := h
  obtain ⟨h1, h2⟩ := ho
  rcases h2 with ⟨hv, _⟩ | ⟨g', cap', cur, hv, hb, hh, hnc, hcm, hcs, ht⟩
  · cases hv
  injection hv with ha hn' hc
  injection ha with ha
  injection ha with hg
  subst hg; subst hc
  have hn : n = xs.length := hn'
  refine ⟨hn, by omega, hcm, hb, h0 g (by simp [Value.ownBlock]), cur, hh, hcs, ?_⟩
  rw [ht]
  exact hr.imp_ (fun p c hp => d.M_mono (fun k hk => ⟨hk.1, fun he => hk.2 (by simp [Value.ownBlock, he])⟩) hp)
theorem R_unraw (hg : W.grownBy w1 (some g)) (hb : base ≤ g) (hokg : ok g) {cur : Array Value} (hh : w1.heap[g]? = some (.cells cur e (0, 0))) (hcm : cap ≤ maxLen) (hcs : cur.size = cap * d.sz) (hn : ys.length ≤ cap)
    (hr : Reps (d.M W base (fun k => ok k ∧ k ≠ g)) d.sz ys (cur.toList.take (ys.length * d.sz))) : d.R e w1 base ok (.slice (some ⟨g, 0, none⟩) ys.length cap) ys := by
  refine ⟨fun k hk => ?_, cur.toList.take (ys.length * d.sz), ⟨hr.1, .inr ⟨g, cap, cur, rfl, hb, hh, hn, hcm, hcs, rfl⟩⟩, ?_⟩
  · have : g = k := by simpa [Value.ownBlock] using hk
    subst this; exact hokg
  · refine hr.imp_ (fun p c hp => ?_)
    refine d.M_mono (fun k hk => ⟨hk.1, fun he => hk.2 (by simpa [Value.ownBlock] using he)⟩) (Kd.M_step hp (fun k hk hlt => hg.block k hlt (fun he => hk.2 (by simpa using he))))
end
theorem run_clear_cells {P : Program} (w : World) (t e ty : TypeId) (z : Value) (ht : P.underlying t = some (.slice e)) (hv : ∀ w, (zeroValue e).run P w = .ok z w) (h1 : ∀ u ∈ z.cells, u.oneCell' = true) (b o n c : Nat) (hn : 0 < n)
    (hc : ∀ j, j < n * z.cells.size → (w.cell? ⟨b, o + j, none⟩).isSome = true) (hf : ∀ j, j < n * z.cells.size → w.frozen? ⟨b, o + j, none⟩ = false) :
    (Builtin.clear_ #[t] ty #[.slice (some ⟨b, o, none⟩) n c]).run P w = .ok (.tuple #[]) (w.setCells b o (Builtin.zeroCells z.cells n).toList) := by
  have hlen : (Builtin.zeroCells z.cells n).toList.length = n * z.cells.size := by simp [Builtin.zeroCells]
  have hst := run_storeCells_cells (P := P) b o (Builtin.zeroCells z.cells n).toList 0 w (by rw [hlen]; simpa using hc) (by rw [hlen]; simpa using hf) (by
    intro u hu
    simp only [Builtin.zeroCells, Array.toList_map, List.mem_map] at hu
    obtain ⟨i, hi, rfl⟩ := hu
    rcases Nat.eq_zero_or_pos z.cells.size with h0 | h0
    · simp [h0] at hi
    · have : i % z.cells.size < z.cells.size := Nat.mod_lt _ h0
      rw [getElem!_pos z.cells _ this]
      exact h1 _ (Array.getElem_mem this))
  simp only [Nat.add_zero] at hst
  obtain ⟨m, rfl⟩ : ∃ m, n = m + 1 := ⟨n - 1, by omega⟩
  simp [Builtin.clear_, run_underlying ht, hv, hst]
section
variable {P : Program} {ops : Array Oper} {rest : List Oper} {o : Oper} {a : Act} {Q : Exit → Act → World → Prop} {α : Type}
theorem R_clear (d : Kd α) {w0 W : World} (base : Nat) (hgd : o.guard = none) (x : Operand) (t e : TypeId) (z : Value)
    (ho : o.op = .call { callee := .builtin .clear, args := #[x], argTypes := #[t] }) (ht : P.underlying t = some (.slice e)) (hv : ∀ w, (zeroValue e).run P w = .ok z w) (hz : z.cells.size = d.sz) (h1 : ∀ u ∈ z.cells, u.oneCell' = true)
    {g n cap : Nat} (k c : Nat) (xs : List α) (ok : Nat → Prop) (hx : a.eval x = .slice (some ⟨g, k * d.sz, none⟩) (n - k) c) (hk : k < n)
    (HO : d.R e W base ok (.slice (some ⟨g, 0, none⟩) n cap) xs) (HB : Below base w0 W)
    (h : ∀ w1, d.R e w1 base ok (.slice (some ⟨g, 0, none⟩) k cap) (xs.take k) → Below base w0 w1 → W.grownBy w1 (some g) → wpList P ops Q rest (a.put o.dst (.tuple #[])) w1) : wpList P ops Q (o :: rest) a W := by
  obtain ⟨hn, hnc, hcm, hb, hok, cur, hh, hcs, hr⟩ := R_raw HO
  have hzl : (Builtin.zeroCells z.cells (n - k)).toList.length = (n - k) * d.sz := by simp [Builtin.zeroCells, hz]
  have hfit : k * d.sz + (n - k) * d.sz ≤ cur.size := by rw [← Nat.add_mul, hcs]; exact Nat.mul_le_mul_right _ (by omega)
  have hrun := run_clear_cells (P := P) W t e o.type z ht hv h1 g (k * d.sz) (n - k) c (by omega)
    (fun j hj => by
      rw [hz] at hj
      have hlt : k * d.sz + j < cur.size := by omega
      rw [cell_of_row W g _ cur e (0, 0) hh, Array.getElem?_eq_getElem hlt]; rfl) (fun j _ => blk_frozen hh _)
  obtain ⟨cur', h3, h4, h5⟩ := setCells_row (Builtin.zeroCells z.cells (n - k)).toList (k * d.sz) W cur hh (by rw [hzl]; exact hfit)
  obtain ⟨s1, s2, s3, s4⟩ := setCells_same g (Builtin.zeroCells z.cells (n - k)).toList (k * d.sz) W
  have hg : W.grownBy (W.setCells g (k * d.sz) (Builtin.zeroCells z.cells (n - k)).toList) (some g) := ⟨s1, s2, s3, by rw [s4]; exact Nat.le_refl _, fun i _ hi => setCells_far _ _ i (fun he => hi (by rw [he]))⟩
  have hlk : (xs.take k).length = k := by rw [List.length_take]; omega
  have hR : d.R e (W.setCells g (k * d.sz) (Builtin.zeroCells z.cells (n - k)).toList) base ok (.slice (some ⟨g, 0, none⟩) (xs.take k).length cap) (xs.take k) := by
    refine R_unraw hg hb hok h3 hcm (by rw [h4, hcs]) (by omega) ?_
    have h6 := Kd.reps_take hr (show k ≤ xs.length by omega)
    rw [hlk, h5]
    rw [List.take_take, Nat.min_eq_left (Nat.mul_le_mul_right _ (show k ≤ xs.length by omega))] at h6
    rw [List.append_assoc, List.take_append_of_le_length (by rw [List.length_take, Array.length_toList]; omega), List.take_take, Nat.min_self]
    exact h6
  rw [hlk] at hR
  have hB : Below base w0 (W.setCells g (k * d.sz) (Builtin.zeroCells z.cells (n - k)).toList) := HB.trans ⟨s1, s2, s3, by rw [s4]; exact Nat.le_refl _, fun i hi => setCells_far _ _ i (by omega)⟩
  refine wpList_plain hgd fun K hK => ?_
  unfold Oper.wp execOp
  simp only [ho, resolve, invoke, builtin, Sem.run_bind, Sem.run_pure, Result.andThen_ok, List.map_toArray, List.map_cons, List.map_nil, hx, hrun]
  exact hK _ _ (h _ hR hB hg)
end
section
variable {α : Type} {d : Kd α} {e base cap g : Nat} {ok : Nat → Prop} {w1 : World} {ys : List α}
theorem R_make (hb : base ≤ g) (hokg : ok g) {cur : Array Value} (hh : w1.heap[g]? = some (.cells cur e (0, 0))) (hcm : cap ≤ maxLen) (hcs : cur.size = cap * d.sz) (hn : ys.length ≤ cap)
    (hr : Reps (d.M w1 base (fun k => ok k ∧ k ≠ g)) d.sz ys (cur.toList.take (ys.length * d.sz))) : d.R e w1 base ok (.slice (some ⟨g, 0, none⟩) ys.length cap) ys :=
  R_unraw (World.grownBy.refl w1 _) hb hokg hh hcm hcs hn hr
end
theorem shape_of_heap {w : World} {g : Nat} {cs : Array Value} {t : TypeId} {fr : Nat × Nat} (h : w.heap[g]? = some (.cells cs t fr)) : w.shape? g = some (t, cs.size) := by simp [World.shape?, h]
theorem shape_of_cell {w : World} {a : Addr} {v : Value} (h : w.cell? a = some v) : ∃ t k, w.shape? a.block = some (t, k + 1) := by
  unfold World.cell? at h
  split at h
  · rename_i cells t fr h1
    have hsz : cells.size ≠ 0 := by
      intro h0
      obtain rfl : cells = #[] := Array.eq_empty_of_size_eq_zero h0
      simp at h
    exact ⟨t, cells.size - 1, by rw [shape_of_heap h1]; congr 2; omega⟩
  · cases h
theorem run_overlaps_own {P : Program} (w : World) (tS tR e : TypeId) (ht : P.underlying tS = some (.slice e)) (size : Nat) (hz : ∀ w, (Go.sizeOf e).run P w = .ok size w)
    (a : Option Addr) (la ca : Nat) (b : Addr) (lb cb : Nat) (hne : ∀ ad, a = some ad → ad.block ≠ b.block) (hca : ∀ ad, a = some ad → 0 < la → ∃ v, w.cell? ad = some v)
    {cs : Array Value} {t : TypeId} (hb : w.heap[b.block]? = some (.cells cs t (0, 0))) (hcs : cs.size ≠ 0) :
    (Extern.SlicesOverlaps.overlaps #[tS, tS] #[tR] #[.slice a la ca, .slice (some b) lb cb]).run P w = .ok (.bool false) w := by
  cases a with
  | none =>
    change Sem.run P (α := Value) (do
      let some t := (#[tS, tS] : Array TypeId)[0]? | stuck "slices.overlaps: no parameter types"
      let .slice elem ← underlying t | stuck "slices.overlaps: slice type expected"
      let size ← sizeOf elem
      pure (.bool false)) w = _
    simp [run_underlying ht, hz]
  | some a =>
    have hne' := hne a rfl
    by_cases h0 : la = 0 ∨ lb = 0 ∨ size = 0
    · change Sem.run P (α := Value) (do
        let some t := (#[tS, tS] : Array TypeId)[0]? | stuck "slices.overlaps: no parameter types"
        let .slice elem ← underlying t | stuck "slices.overlaps: slice type expected"
        let size ← sizeOf elem
        match (some a : Option Addr), (some b : Option Addr) with
        | some a, some b =>
          if la = 0 ∨ lb = 0 ∨ size = 0 then pure (Value.bool false)
          else if a.block != b.block && (← frozen a) && (← frozen b) then unsupported .addressObserved
          else do
            if a.block != b.block then do
              noView a; noView b
              if ← mayBeOne a b then return Value.bool ((← choose (.extern "sameAddr.stringBytes" 2)) == 1)
            pure (Value.bool (a.block == b.block && a.off < b.off + lb * size && b.off < a.off + la * size))
        | _, _ => pure (Value.bool false)) w = _
      simp [run_underlying ht, hz, h0]
    · obtain ⟨v, hv⟩ := hca a rfl (by omega)
      obtain ⟨tA, kA, hsa⟩ := shape_of_cell hv
      have hsb := shape_of_heap hb
      have hnb : (a.block != b.block) = true := by simpa using hne'
      have hnb' : (a.block == b.block) = false := by simpa using hne'
      have hfb : w.frozen? b = false := by simp [World.frozen?, hb]
      have hfb2 : ∀ j, w.frozen? { block := b.block, off := j } = false := fun j => by simp [World.frozen?, hb]
      change Sem.run P (α := Value) (do
        let some t := (#[tS, tS] : Array TypeId)[0]? | stuck "slices.overlaps: no parameter types"
        let .slice elem ← underlying t | stuck "slices.overlaps: slice type expected"
        let size ← sizeOf elem
        match (some a : Option Addr), (some b : Option Addr) with
        | some a, some b =>
          if la = 0 ∨ lb = 0 ∨ size = 0 then pure (Value.bool false)
          else if a.block != b.block && (← frozen a) && (← frozen b) then unsupported .addressObserved
          else do
            if a.block != b.block then do
              noView a; noView b
              if ← mayBeOne a b then return Value.bool ((← choose (.extern "sameAddr.stringBytes" 2)) == 1)
            pure (Value.bool (a.block == b.block && a.off < b.off + lb * size && b.off < a.off + la * size))
        | _, _ => pure (Value.bool false)) w = _
      obtain ⟨k, hk⟩ : ∃ k, cs.size = k + 1 := ⟨cs.size - 1, by omega⟩
      rw [hk] at hsb
      cases hfa : w.frozen? a <;> cases hfe : w.frozen? { block := a.block, off := kA } <;>
        simp [run_underlying ht, hz, h0, hnb, hnb', frozen, noView, viewAt, mayBeOne, stringish, shape, Sem.run, hsa, hsb, hfa, hfe, hfb, hfb2]
section
variable {P : Program} {ops : Array Oper} {rest : List Oper} {o : Oper} {a : Act} {Q : Exit → Act → World → Prop}
theorem raw_copy {W : World} (hgd : o.guard = none) (x y : Operand) (t e : TypeId) (size : Nat) (ho : o.op = .call { callee := .builtin .copy, args := #[x, y], argTypes := #[t, t] })
    (ht : P.underlying t = some (.slice e)) (hsz : (P.info? e).map (·.size) = some size) {g off dl dc : Nat} {ad : Addr} {sl sc : Nat} (cs : List Value)
    (hx : a.eval x = .slice (some ⟨g, off, none⟩) dl dc) (hy : a.eval y = .slice (some ad) sl sc) (hn : cs.length = Nat.min sl dl * size) (hsrc : ∀ j v, cs[j]? = some v → W.cell? (ad.add j) = some v) (h1 : ∀ v ∈ cs, v.oneCell' = true)
    {cur : Array Value} {e' : TypeId} (hh : W.heap[g]? = some (.cells cur e' (0, 0))) (hfit : off + cs.length ≤ cur.size)
    (h : ∀ (w2 : World) (cur2 : Array Value), w2.heap[g]? = some (.cells cur2 e' (0, 0)) → cur2.size = cur.size → cur2.toList = cur.toList.take off ++ cs ++ cur.toList.drop (off + cs.length) → W.grownBy w2 (some g) → (∀ k, k ≠ g → w2.heap[k]? = W.heap[k]?) → wpList P ops Q rest (a.put o.dst (goInt (Nat.min sl dl))) w2) : wpList P ops Q (o :: rest) a W := by
  have hl := run_loadCells_list (P := P) W ad cs hsrc
  have hst := run_storeCells_cells (P := P) g off cs 0 W (fun j hj => by
    have hlt : off + 0 + j < cur.size := by omega
    rw [cell_of_row W g _ cur e' (0, 0) hh, Array.getElem?_eq_getElem hlt]; rfl) (fun j _ => blk_frozen hh _) h1
  obtain ⟨i, hi, hsz'⟩ := Option.map_eq_some_iff.1 hsz
  have hrun : (Builtin.copy_ #[t, t] o.type #[.slice (some ⟨g, off, none⟩) dl dc, .slice (some ad) sl sc]).run P W = .ok (goInt (Nat.min sl dl)) (W.setCells g off cs) := by
    simp only [Nat.add_zero] at hst
    simp [Builtin.copy_, run_underlying ht, Builtin.lenOf, Builtin.firstCells, sizeOf, typeInfo, hi, hsz', ← hn, hl, hst]
  refine wpList_plain hgd fun K hK => ?_
  unfold Oper.wp execOp
  simp only [ho, resolve, invoke, builtin, Sem.run_bind, Sem.run_pure, Result.andThen_ok, List.map_toArray, List.map_cons, List.map_nil, hx, hy, hrun]
  obtain ⟨cur2, h2, h3, h4⟩ := setCells_row cs off W cur hh hfit
  obtain ⟨s1, s2, s3, s4⟩ := setCells_same g cs off W
  exact hK _ _ (h _ cur2 h2 h3 h4 ⟨s1, s2, s3, by rw [s4]; exact Nat.le_refl _, fun i _ hi => setCells_far _ _ i (fun he => hi (by rw [he]))⟩ (fun k hk => setCells_far _ _ k hk))
end
theorem run_append_zeros_grows {P : Program} (w : World) (t ti e : TypeId) (i : TypeInfo) (z : Value) (size bytes : Nat) (ht : P.underlying t = some (.slice e)) {k : IntKind} (hti : P.underlying ti = some (.int k)) (hi : P.info? e = some i) (hz : i.zero = some z)
    (hsize : i.size = size) (hby : i.bytes = bytes) (hzs : z.cells.size = size) (hsz : 0 < size) (hb0 : 0 < bytes)
    (b : Addr) (n cap : Nat) (xs : List Value) (hlo : xs.length = n * size) (holds : ∀ j u, xs[j]? = some u → w.cell? (b.add j) = some u) (kx : IntKind) (m : Nat) (hm : 0 < m) (hcap : cap < n + m)
    (hbytes : (n + m) * bytes ≤ 140737488355328) :
    ∃ (cap' : Nat) (cur : Array Value) (w1 : World), n + m ≤ cap' ∧ cap' ≤ maxLen ∧ cur.size = cap' * size ∧ cur.toList.take (n * size) = xs ∧ w1.heap[w.heap.size]? = some (.cells cur e (0, 0)) ∧ Below w.heap.size w w1 ∧
      ∀ ty : TypeId, (Builtin.append_ #[t, ti] ty #[.slice (some b) n cap, .int kx m]).run P w = .ok (.slice (some ⟨w.heap.size, 0, none⟩) (n + m) cap') w1 := by
  subst hsize
  subst hby
  have hle : n + m ≤ 140737488355328 := Nat.le_trans (Nat.le_mul_of_pos_right _ hb0) hbytes
  have h63 : n + m ≤ maxLen := by simp only [maxLen]; omega
  have hw : IntKind.i64.wrap (m : Int) = m := by rw [IntKind.wrap_i64]; omega
  have hneg : ¬ ((m : Int) < 0) := by omega
  have hmb : m * i.bytes ≤ 140737488355328 := Nat.le_trans (Nat.mul_le_mul_right _ (Nat.le_add_left m n)) hbytes
  have hbig : ¬ (281474976710656 < (m : Int) * (i.bytes : Int)) := by
    rw [← Int.natCast_mul]
    omega
  have hnl : (Builtin.zeroCells z.cells m).toList.length = m * i.size := by rw [Array.length_toList, size_zeroCells, hzs]
  refine ⟨grownCap w (n + m) cap e, xs.toArray ++ Builtin.zeroCells z.cells m ++ Builtin.zeroCells z.cells (grownCap w (n + m) cap e - (n + m)), w.drew.alloc (.cells (xs.toArray ++ Builtin.zeroCells z.cells m ++ Builtin.zeroCells z.cells (grownCap w (n + m) cap e - (n + m))) e), grownCap_ge w (n + m) cap e, grownCap_le_maxLen w (n + m) cap e h63, ?_, ?_, heap_alloc_new w.drew _, ((Below.refl _ _).drew).alloc (Nat.le_refl _) _, ?_⟩
  · have hge := grownCap_ge w (n + m) cap e
    simp only [Array.size_append, List.size_toArray, size_zeroCells, hzs, hlo, ← Nat.add_mul]
    congr 1
    omega
  · simp only [Array.toList_append, List.append_assoc]
    rw [← hlo]
    exact List.take_left
  · intro ty
    have hn : ¬ (n + m ≤ cap) := by omega
    have h63' : ¬ (9223372036854775807 < ((n : Int) + (m : Int))) := by omega
    have hfit := growslice_fits hcap hbytes
    have h48' : ¬ (281474976710656 < Builtin.nextslicecap (n + m) cap * i.bytes) := by omega
    have hmz : ¬ (m * i.size = 0) := Nat.mul_ne_zero (by omega) (by omega)
    have hfo := run_firstCells_some (P := P) w.drew i.size n b n cap xs hlo (by simpa using holds)
    simp [Builtin.append_, run_underlying ht, run_underlying hti, sizeOf, typeInfo, zeroValue, hi, hz, asInt, asIntOf, hw, hneg, hbig, hn, h63', h48', Question.forced, hfo, newRow, grownCap, hmz]
theorem reps_drop {α : Type} {R : α → List Value → Prop} {size m : Nat} {ps : List α} {cs : List Value} (h : Reps R size ps cs) : Reps R size (ps.drop m) (cs.drop (m * size)) := by
  refine ⟨by rw [List.length_drop, h.1, List.length_drop, Nat.sub_mul], fun j p hj => ?_⟩
  rw [List.getElem?_drop] at hj
  have h2 := h.2 (m + j) p hj
  rw [List.drop_drop, ← Nat.add_mul]
  exact h2
theorem reps_insert {α : Type} {R : α → List Value → Prop} {size i : Nat} {ps qs : List α} {cs ds : List Value} (h : Reps R size ps cs) (h' : Reps R size qs ds) (hi : i ≤ ps.length) :
    Reps R size (ps.take i ++ qs ++ ps.drop i) (cs.take (i * size) ++ ds ++ cs.drop (i * size)) := Kd.reps_append (Kd.reps_append (Kd.reps_take h hi) h') (reps_drop h)
theorem cut_low {P : Program} (t e : TypeId) (sz : Nat) (ht : P.underlying t = some (.slice e)) (hsz : ∀ w, (Go.sizeOf e).run P w = .ok sz w) (kl : IntKind) (A : Option Addr) (n c m : Nat) (hm : m ≤ n) :
    ∃ A' : Option Addr, (∀ W : World, (Instr.slice t (.slice A n c) (some (.int kl (m : Int))) none none).run P W = .ok (.slice A' (n - m) (c - m)) W) ∧ (m < c → A' = A.map (·.add (m * sz))) := by
  refine ⟨if c = m then A else A.map (·.add (m * sz)), fun W => ?_, fun h => by rw [if_neg (by omega)]⟩
  have hel : P.elem t = e := by simp [Program.elem, ht]
  have hu : P.underlying t = some (.slice (P.elem t)) := by rw [hel]; exact ht
  rw [run_slice_l W t A n c hu kl (m : Int) (Int.natCast_nonneg _) (by omega), hel, hsz]
  simp [sliced, Result.andThen]
theorem cut_own {P : Program} (t e : TypeId) (sz : Nat) (ht : P.underlying t = some (.slice e)) (hsz : ∀ w, (Go.sizeOf e).run P w = .ok sz w) (kl : IntKind) (g n c m : Nat) (hm : m ≤ n) (hc : m < c) (W : World) :
    (Instr.slice t (.slice (some ⟨g, 0, none⟩) n c) (some (.int kl (m : Int))) none none).run P W = .ok (.slice (some ⟨g, m * sz, none⟩) (n - m) (c - m)) W := by
  obtain ⟨A', h1, h2⟩ := cut_low (P := P) t e sz ht hsz kl (some ⟨g, 0, none⟩) n c m hm
  rw [h1 W, h2 hc]
  simp [add_plain]
theorem append_run {P : Program} {ops : Array Oper} {rest : List Oper} {o : Oper} {a : Act} {Q : Exit → Act → World → Prop} {W w1 : World} (hgd : o.guard = none) (x y : Operand) (ts : Array TypeId) (ho : o.op = .call { callee := .builtin .append, args := #[x, y], argTypes := ts })
    (vx vy v : Value) (hx : a.eval x = vx) (hy : a.eval y = vy) (hrun : ∀ ty, (Builtin.append_ ts ty #[vx, vy]).run P W = .ok v w1) (h : wpList P ops Q rest (a.put o.dst v) w1) : wpList P ops Q (o :: rest) a W := by
  refine wpList_plain hgd fun K hK => ?_
  unfold Oper.wp execOp
  simp only [ho, resolve, invoke, builtin, Sem.run_bind, Sem.run_pure, Result.andThen_ok, List.map_toArray, List.map_cons, List.map_nil, hx, hy, hrun]
  exact hK _ _ h
theorem M_carry {α : Type} {d : Kd α} {w w1 : World} {base : Nat} {ok ok' : Nat → Prop} {x : α} {cs : List Value} (h : d.M w base ok x cs) (hm : ∀ k, ok k → k < w.heap.size → w1.heap[k]? = w.heap[k]?) (hok : ∀ k, ok k → k < w.heap.size → ok' k) : d.M w1 base ok' x cs :=
  d.M_mono (fun k hk => hok k hk.1 hk.2.2.1) (d.M_move (fun k hk => hm k hk.1 hk.2.2.1) (d.M_bound h))
theorem splice_grow (C I X C2 C3 : List Value) (i n s : Nat) (hin : I.length = n * s) (hi : i < n) (hx : X.length = s) (h1 : C.take (i * s) = I.take (i * s)) (hC : (n + 1) * s ≤ C.length)
    (h2 : C2 = C.take (i * s) ++ X ++ C.drop (i * s + X.length)) (h3 : C3 = C2.take ((i + 1) * s) ++ I.drop (i * s) ++ C2.drop ((i + 1) * s + (I.drop (i * s)).length)) :
    C3.take ((n + 1) * s) = I.take (i * s) ++ X ++ I.drop (i * s) := by
  have e1 : (i + 1) * s = i * s + s := Nat.succ_mul i s
  have e2 : (n + 1) * s = n * s + s := Nat.succ_mul n s
  have hle : i * s ≤ n * s := Nat.mul_le_mul_right _ (by omega)
  have hl1 : (I.take (i * s)).length = i * s := by rw [List.length_take, hin]; omega
  have hA : C2.take ((i + 1) * s) = I.take (i * s) ++ X := by
    rw [h2, h1, e1, List.take_append_of_le_length (by rw [List.length_append, hl1, hx]; exact Nat.le_refl _), List.take_of_length_le (by rw [List.length_append, hl1, hx]; exact Nat.le_refl _)]
  have hlen : (I.take (i * s) ++ X ++ I.drop (i * s)).length = (n + 1) * s := by rw [List.length_append, List.length_append, hl1, hx, List.length_drop, hin]; omega
  rw [h3, hA, List.take_append_of_le_length (by rw [hlen]; exact Nat.le_refl _), List.take_of_length_le (by rw [hlen]; exact Nat.le_refl _)]
theorem splice_room (C I X C2 C3 : List Value) (i n s : Nat) (hin : I.length = n * s) (hi : i < n) (hx : X.length = s) (h1 : C.take (n * s) = I) (hC : (n + 1) * s ≤ C.length)
    (h2 : C2 = C.take ((i + 1) * s) ++ I.drop (i * s) ++ C.drop ((i + 1) * s + (I.drop (i * s)).length)) (h3 : C3 = C2.take (i * s) ++ X ++ C2.drop (i * s + X.length)) :
    C3.take ((n + 1) * s) = I.take (i * s) ++ X ++ I.drop (i * s) := by
  have e1 : (i + 1) * s = i * s + s := Nat.succ_mul i s
  have e2 : (n + 1) * s = n * s + s := Nat.succ_mul n s
  have hle : (i + 1) * s ≤ n * s := Nat.mul_le_mul_right _ (by omega)
  have hlC : (C.take ((i + 1) * s)).length = (i + 1) * s := by rw [List.length_take]; omega
  have hl1 : (I.take (i * s)).length = i * s := by rw [List.length_take, hin]; omega
  have hA : C2.take (i * s) = I.take (i * s) := by
    rw [h2, List.append_assoc, List.take_append_of_le_length (by rw [hlC]; omega), List.take_take, Nat.min_eq_left (by omega), ← h1, List.take_take, Nat.min_eq_left (by omega)]
  have hB : C2.drop (i * s + X.length) = I.drop (i * s) ++ C.drop ((i + 1) * s + (I.drop (i * s)).length) := by
    rw [h2, hx, ← e1, List.append_assoc, List.drop_append_of_le_length (by rw [hlC]; exact Nat.le_refl _), List.drop_of_length_le (by rw [hlC]; exact Nat.le_refl _), List.nil_append]
  have hlen : (I.take (i * s) ++ X ++ I.drop (i * s)).length = (n + 1) * s := by rw [List.length_append, List.length_append, hl1, hx, List.length_drop, hin]; omega
  rw [h3, hA, hB, ← List.append_assoc, List.take_append_of_le_length (by rw [hlen]; exact Nat.le_refl _), List.take_of_length_le (by rw [hlen]; exact Nat.le_refl _)]
theorem apart_of_kept {α : Type} {d : Kd α} {S : Nat → Prop} {w : World} {A : Option Addr} {n g : Nat} {xs : List α} (hS : S g) (h : ∀ W_, Kept w W_ S → d.C W_ A n xs) (hn : 0 < n) (hsz : 0 < d.sz) : ∀ ad, A = some ad → ad.block ≠ g := by
  intro ad hA he
  have hk : Kept w { w with heap := w.heap.setIfInBounds g (.cells #[] 0 (0, 0)) } S := by
    refine ⟨by simp, fun i hi hn' => ?_⟩
    have hne : g ≠ i := fun h => hn' (h ▸ hS)
    simp [hne]
  have hC := h _ hk
  obtain ⟨ad', hA', hh⟩ := hC.2.2 hn
  rw [hA] at hA'
  injection hA' with hA'
  subst hA'
  have hl : 0 < xs.length := by rw [hC.1]; exact hn
  obtain ⟨c, hcl, _, hcell⟩ := hh 0 _ (List.getElem?_eq_getElem hl)
  have h0 : 0 < c.length := by rw [hcl]; exact hsz
  have h1 := hcell 0 _ (List.getElem?_eq_getElem h0)
  have hb : (ad.add (0 * d.sz + 0)).block = g := by rw [Nat.zero_mul, Nat.zero_add]; unfold Addr.add; simpa using he
  unfold World.cell? at h1
  rw [hb] at h1
  rcases Nat.lt_or_ge g w.heap.size with hg | hg
  · simp [hg] at h1
  · simp [Nat.not_lt.2 hg] at h1
end Go.Proofs.Ytjgbjahpncfhhaa.HK
