import Derived.Test.YtjgbjahpncfhhaaQ1PW2x0
import Derived.StillTailTactics
import Derived.WalkSpells
import Derived.Lib.Overlaps
import Derived.Test.YtjgbjahpncfhhaaQ1HK
namespace Go.Proofs.Ytjgbjahpncfhhaa.PW2
open Go.RowKit Go.Proofs.YtjgbjahpncfhhaaW.PrintWords Go.Proofs.YtjgbjahpncfhhaaW.PrintLast Go.Proofs.YtjgbjahpncfhhaaW.PrintMore Go.Proofs.Ytjgbjahpncfhhaa.HK
set_option linter.unusedVariables false
set_option linter.unusedSimpArgs false
def insert_Window.f (l0 : List (S143)) (a1 : Int) (l2 : List (S143)) : Option (List (S143)) :=
  if 0 ≤ a1 ∧ a1 ≤ (l0.length : Int) ∧ l2.length = 1 ∧ l0.length + 1 < 5864062014805 then some (l0.take a1.toNat ++ l2 ++ l0.drop a1.toNat) else none
theorem insert_Window.sizeE (w : World) : (Go.sizeOf 143).run Try.prog w = .ok 3 w := by kernel_rfl
theorem insert_Window.infoE : (Try.prog.info? 143).map (·.size) = some 3 := by kernel_rfl
theorem insert_Window.km {w : World} {base : Nat} {ok : Nat → Prop} : ∀ x cs, (k143).K w x cs → (k143).M w base ok x cs := by intro x cs hK; obtain rfl := k143_open hK; exact k143_mkM _ _ _ _
theorem insert_Window.last (P0_ : Nat → Prop) (u : Value) (l0 : List (S143)) (A2 : Option Addr) (c2 : Nat) (l2 : List (S143)) (w0 w : World) (hB : Below w0.heap.size w0 w) (ho0 : Kd.R k143 143 w w0.heap.size P0_ u l0) (hr2 : ∀ W_, Kept w W_ (fun k_ => P0_ k_) → Kd.C k143 W_ A2 l2.length l2) (hc2 : l2.length ≤ c2) (h1 : l2.length = 1) (hl : l0.length + 1 < 5864062014805) :
    Calls Try.prog 91 #[u, .int .i64 (l0.length : Int), .slice A2 l2.length c2] w fun e w' => ∃ v0_ : Value, e = .returned (v0_) ∧ Kd.R k143 143 w' w0.heap.size (fun k_ => (P0_ k_ ∨ w.heap.size ≤ k_)) v0_ (l0 ++ l2) ∧ Below w0.heap.size w0 w' ∧ Kept w w' (fun k_ => P0_ k_) := by
  have hu := Try.underlying28
  have HL := Aside0.mk hl
  have HO := Aside0.mk (show Kd.R k143 143 w w0.heap.size (fun k_ => (P0_ k_ ∨ w.heap.size ≤ k_)) u l0 from Kd.R_mono ho0 (fun k_ hk => .inl hk))
  have HOO := Aside0.mk ho0
  have HR := Aside0.mk hr2
  have HB := Aside0.mk hB
  have H1 := Aside0.mk h1
  have h1b : (((l2.length : Nat) : Int) == 0) = false := by rw [h1]; rfl
  obtain ⟨A, c, rfl, hc⟩ := Kd.R_reads ho0
  have hc := hc.1
  clear hl ho0 hr2 hB h1
  obtain ⟨A1, hcut, _⟩ := cut_low (P := Try.prog) 28 143 3 Try.underlying28 insert_Window.sizeE .i64 A l0.length c l0.length (Nat.le_refl _)
  go_enter Try.func91, Try.ntmps91
  go_wp2_with (at_builtin; refine Kd.R_append_rows k143 (Rr := (k143).K w) (w0 := w0) w0.heap.size rfl (.tmp 23) (.tmp 24) 28 143 (.agg #[(.int .i64 0), (.int .i64 0), (.int .i64 0)]) 24 rfl Try.underlying28 info143 rfl (by decide) (by omega) (.slice A l0.length c) l0 l2 _ _ _ (fun k_ => (P0_ k_ ∨ w.heap.size ≤ k_)) (fun _ => False) rfl rfl ?aO ?aR ?aK (fun _ h => h.elim) ?aF ?aB ?aS ?aL ?_)
  case aO => exact HO.out
  case aR => exact HR.out w (Kept.refl _ _)
  case aK => exact insert_Window.km
  case aF => intro k hk; exact .inr hk
  case aB => exact HB.out
  case aS => exact HB.out.size
  case aL => have := HL.out; have := H1.out; omega
  intro v1 w1 ho hb hg hat
  have HO1 := Aside0.mk ho
  have HB1 := Aside0.mk hb
  have HG1 := Aside0.mk hg
  clear ho hb hg hat
  go_wp2_with fail
  go_ret
  exact ⟨v1, rfl, HO1.out, HB1.out, Kept.of_grown HG1.out (Kept.refl _ _) (fun k hk => .inl (HOO.out.1 k hk))⟩
set_option maxHeartbeats 4000000 in
set_option maxRecDepth 100000 in
theorem insert_Window.grow (P0_ : Nat → Prop) (u : Value) (l0 : List (S143)) (i : Nat) (A2 : Option Addr) (c2 : Nat) (y : S143) (w0 w : World) (hB : Below w0.heap.size w0 w) (ho0 : Kd.R k143 143 w w0.heap.size P0_ u l0) (hr2 : ∀ W_, Kept w W_ (fun k_ => P0_ k_) → Kd.C k143 W_ A2 1 [y]) (hc2 : 1 ≤ c2) (hi : i < l0.length) (hl : l0.length + 1 < 5864062014805)
    (g c : Nat) (hu : u = .slice (some ⟨g, 0, none⟩) l0.length c) (hcap : c < l0.length + 1) :
    Calls Try.prog 91 #[u, .int .i64 (i : Int), .slice A2 1 c2] w fun e w' => ∃ v0_ : Value, e = .returned (v0_) ∧ Kd.R k143 143 w' w0.heap.size (fun k_ => (P0_ k_ ∨ w.heap.size ≤ k_)) v0_ (l0.take i ++ [y] ++ l0.drop i) ∧ Below w0.heap.size w0 w' ∧ Kept w w' (fun k_ => P0_ k_) := by
  subst hu
  obtain ⟨_, hnc, hcm, hbg, hok, cur0, hh, hcs, hr⟩ := R_raw ho0
  have hneq : (((i : Nat) : Int) == (l0.length : Int)) = false := beq_eq_false_iff_ne.mpr (by omega)
  have hgt : decide ((c : Int) < (l0.length : Int) + 1) = true := decide_eq_true (by omega)
  obtain ⟨I, hI, hr⟩ : ∃ I : List Value, I = cur0.toList.take (l0.length * 3) ∧ Reps ((k143).M w w0.heap.size (fun k => P0_ k ∧ k ≠ g)) 3 l0 I := ⟨_, rfl, hr⟩
  have hIl : I.length = l0.length * 3 := hr.1
  have hIr : ∀ (j : Nat) (v : Value), I[j]? = some v → cur0[j]? = some v := by
    intro j v hj
    rw [hI, List.getElem?_take] at hj
    split at hj
    · rw [Array.getElem?_toList] at hj; exact hj
    · cases hj
  have hinner : ∀ (j : Nat) (v : Value), (I.take (i * 3))[j]? = some v → w.cell? ((⟨g, 0, none⟩ : Addr).add j) = some v := by
    intro j v hj
    rw [add_plain, cell_of_row w g j cur0 143 (0, 0) hh]
    rw [List.getElem?_take] at hj
    split at hj
    · exact hIr j v hj
    · cases hj
  obtain ⟨i0, hi0, hzz⟩ := Option.map_eq_some_iff.1 info143
  simp only [Prod.mk.injEq] at hzz
  obtain ⟨hz0, hz1, hz2⟩ := hzz
  obtain ⟨cap', cur, w1, hc1, hc2', hcs', hct, hh1, hb1, happ⟩ := run_append_zeros_grows (P := Try.prog) w 28 3 143 i0 _ 3 24 Try.underlying28 Try.underlying3 hi0 hz0 hz1 hz2 rfl (by omega) (by omega) ⟨g, 0, none⟩ i c (I.take (i * 3)) (by rw [List.length_take, hIl]; omega) hinner .i64 (l0.length + 1 - i) (by omega) (by omega) (by omega)
  rw [show i + (l0.length + 1 - i) = l0.length + 1 by omega] at *
  rw [show ((l0.length + 1 - i : Nat) : Int) = (l0.length : Int) + 1 - (i : Int) by omega] at happ
  have hcut1 := cut_own (P := Try.prog) 28 143 3 Try.underlying28 insert_Window.sizeE .i64 g l0.length c i (by omega) (by omega)
  have hcut2 := cut_own (P := Try.prog) 28 143 3 Try.underlying28 insert_Window.sizeE .i64 w.heap.size (l0.length + 1) cap' i (by omega) (by omega)
  have hcut3 := cut_own (P := Try.prog) 28 143 3 Try.underlying28 insert_Window.sizeE .i64 w.heap.size (l0.length + 1) cap' (i + 1) (by omega) (by omega)
  rw [show ((i + 1 : Nat) : Int) = (i : Int) + 1 by omega] at hcut3
  have HCUR := Aside0.mk hct
  have HCS := Aside0.mk hcs'
  have HC2 := Aside0.mk hc2'
  have HO := Aside0.mk ho0
  have HR := Aside0.mk hr2
  have HB := Aside0.mk hB
  have HL := Aside0.mk hl
  have HH := Aside0.mk hh
  have HRR := Aside0.mk hr
  have HIL := Aside0.mk hIl
  have HIR := Aside0.mk hIr
  obtain ⟨ad2, rfl, hcell2⟩ := (hr2 w (Kept.refl _ _)).2.2 (by omega)
  obtain ⟨cs2, hl2, hK2, hcc2⟩ := hcell2 0 y rfl
  have HCC2 := Aside0.mk hcc2
  have HL2 := Aside0.mk hl2
  have HK2 := Aside0.mk hK2
  have HH1 := Aside0.mk hh1
  have HB1 := Aside0.mk hb1
  have HAPP := Aside0.mk happ
  clear hcell2 hcc2 hl2 hK2 hh1 hb1 happ hct hcs' hc2' ho0 hr2 hB hh hr hcs hinner hI hIl hIr hz0 hz1 hz2 hi0 hcm
  go_enter Try.func91, Try.ntmps91
  have SN := Aside0.mk (show cs2.length = Nat.min 1 (l0.length + 1 - i) * 3 by rw [show Nat.min 1 (l0.length + 1 - i) = 1 from Nat.min_eq_left (by omega)]; exact HL2.out)
  have SS := Aside0.mk (show ∀ j v, cs2[j]? = some v → w1.cell? (ad2.add j) = some v by intro j v hj; have hq := HCC2.out j v hj; rw [Nat.zero_mul, Nat.zero_add] at hq; exact pw_cell_below HB1.out hq)
  have SF := Aside0.mk (show i * 3 + cs2.length ≤ cur.size by have h1_ : cs2.length = 3 := HL2.out; rw [h1_, HCS.out]; omega)
  go_upto_region 11 with (first
    | ((with_reducible refine gate_dst (N := 40) rfl ?_); refine append_run rfl (.tmp 34) (.tmp 39) #[28, 3] rfl (.slice (some ⟨g, 0, none⟩) i c) (.int .i64 ((l0.length : Int) + 1 - (i : Int))) (.slice (some ⟨w.heap.size, 0, none⟩) (l0.length + 1) cap') rfl rfl HAPP.out ?_)
    | ((with_reducible refine gate_dst (N := 45) rfl ?_); refine raw_copy rfl (.tmp 43) (.tmp 44) 28 143 3 rfl Try.underlying28 insert_Window.infoE cs2 rfl rfl SN.out SS.out ((k143).K_one HK2.out) HH1.out SF.out ?_; intro w2 cur2 hh2 hs2 hl2 hg2 hf2; have HH2 := Aside0.mk hh2; have HS2 := Aside0.mk hs2; have HLL2 := Aside0.mk hl2; have HG2 := Aside0.mk hg2; have HF2 := Aside0.mk hf2; clear hh2 hs2 hl2 hg2 hf2))
  (try simp only [Act.put, List.setIfInBounds_toArray, List.set_cons_zero, List.set_cons_succ])
  have hwr : IntKind.i64.wrap ((i : Int) + 1) = (i : Int) + 1 := IntWalk.i64_in _ (by omega)
  go_still_tail 8, (by kernel_rfl)
  clear hwr
  change wpList _ _ _ _ _ w2.drew
  refine raw_copy rfl (.tmp 50) (.tmp 53) 28 143 3 rfl Try.underlying28 insert_Window.infoE (I.drop (i * 3)) rfl rfl ?n ?src ?one HH2.out ?fit ?_
  case n => rw [List.length_drop, HIL.out, show Nat.min (l0.length - i) (l0.length - i) = l0.length - i from Nat.min_self _]; omega
  case src =>
    intro j v hj
    have hgw : g < w.heap.size := blk_lt HH.out
    have h1 : w2.drew.heap[g]? = some (.cells cur0 143 (0, 0)) := (HF2.out g (by omega)).trans ((HB1.out.block g hgw).trans HH.out)
    rw [show (⟨g, i * 3, none⟩ : Addr).add j = ⟨g, i * 3 + j, none⟩ from by unfold Addr.add; split <;> simp_all]
    rw [cell_of_row w2.drew g _ cur0 143 (0, 0) h1]
    rw [List.getElem?_drop] at hj
    exact HIR.out _ _ hj
  case one =>
    intro v hv
    exact Kd.reps_one HRR.out (by decide) (fun _ _ hp => (k143).K_one ((k143).K_of_M hp)) v (List.mem_of_mem_drop hv)
  case fit => rw [List.length_drop, HIL.out, HS2.out, HCS.out]; omega
  intro w3 cur3 hh3 hs3 hl3 hg3 hf3
  have HH3 := Aside0.mk hh3
  have HS3 := Aside0.mk hs3
  have HLL3 := Aside0.mk hl3
  have HG3 := Aside0.mk hg3
  have HF3 := Aside0.mk hf3
  clear hh3 hs3 hl3 hg3 hf3
  (try simp only [Act.put, List.setIfInBounds_toArray, List.set_cons_zero, List.set_cons_succ])
  go_wp2_with fail
  go_ret
  have hcs3 := splice_grow cur.toList I cs2 cur2.toList cur3.toList i l0.length 3 HIL.out hi HL2.out HCUR.out (by have h_ : cur.toList.length = cur.size := Array.length_toList; rw [h_, HCS.out]; omega) HLL2.out HLL3.out
  have hgw : g < w.heap.size := blk_lt HH.out
  have hold : ∀ k, k < w.heap.size → w3.heap[k]? = w.heap[k]? := fun k hk => (HF3.out k (by omega)).trans ((HF2.out k (by omega)).trans (HB1.out.block k hk))
  have hlen : (l0.take i ++ [y] ++ l0.drop i).length = l0.length + 1 := by simp only [List.length_append, List.length_take, List.length_drop, List.length_singleton]; omega
  have hR : Kd.R k143 143 w3 w0.heap.size (fun k_ => (P0_ k_ ∨ w.heap.size ≤ k_)) (.slice (some ⟨w.heap.size, 0, none⟩) (l0.take i ++ [y] ++ l0.drop i).length cap') (l0.take i ++ [y] ++ l0.drop i) := by
    refine R_make HB.out.size (.inr (Nat.le_refl _)) HH3.out HC2.out (by rw [HS3.out, HS2.out, HCS.out]; rfl) (by rw [hlen]; exact hc1) ?_
    rw [hlen]
    show Reps _ _ _ (List.take ((l0.length + 1) * 3) cur3.toList)
    rw [hcs3]
    refine reps_insert (HRR.out.imp_ (fun p c hp => M_carry hp (fun k _ hk => hold k hk) (fun k hk hlt => ⟨.inl hk.1, by omega⟩))) ?_ (by omega)
    exact (Reps.none _ _).snoc (M_carry (insert_Window.km (base := w0.heap.size) (ok := fun _ => False) _ _ HK2.out) (fun k hk _ => hk.elim) (fun k hk _ => hk.elim)) HL2.out
  rw [hlen] at hR
  have hBB := HB.out.size
  have hB11 := HB1.out.size
  have hG22 := HG2.out.size
  have hBe : Below w0.heap.size w0 w3 := ((below_then HB.out hBB HB1.out).grown HG2.out (by omega) (fun k hk => by injection hk with hk; omega)).drew.grown HG3.out (by simp; omega) (fun k hk => by injection hk with hk; omega)
  have hKe : Kept w w3 (fun k_ => P0_ k_) := Kept.of_grown HG3.out (Kept.drew (Kept.of_grown HG2.out (Kept.of_below HB1.out (fun k_ => P0_ k_)) (fun k hk => by injection hk with hk; exact .inr (by omega)))) (fun k hk => by injection hk with hk; exact .inr (by omega))
  exact ⟨.slice (some ⟨w.heap.size, 0, none⟩) (l0.length + 1) cap', rfl, by simpa using hR, hBe, hKe⟩
set_option maxHeartbeats 4000000 in
set_option maxRecDepth 100000 in
theorem insert_Window.room (P0_ : Nat → Prop) (u : Value) (l0 : List (S143)) (i : Nat) (A2 : Option Addr) (c2 : Nat) (y : S143) (w0 w : World) (hB : Below w0.heap.size w0 w) (ho0 : Kd.R k143 143 w w0.heap.size P0_ u l0) (hr2 : ∀ W_, Kept w W_ (fun k_ => P0_ k_) → Kd.C k143 W_ A2 1 [y]) (hc2 : 1 ≤ c2) (hi : i < l0.length) (hl : l0.length + 1 < 5864062014805)
    (g c : Nat) (hu : u = .slice (some ⟨g, 0, none⟩) l0.length c) (hcap : l0.length + 1 ≤ c) :
    Calls Try.prog 91 #[u, .int .i64 (i : Int), .slice A2 1 c2] w fun e w' => ∃ v0_ : Value, e = .returned (v0_) ∧ Kd.R k143 143 w' w0.heap.size (fun k_ => (P0_ k_ ∨ w.heap.size ≤ k_)) v0_ (l0.take i ++ [y] ++ l0.drop i) ∧ Below w0.heap.size w0 w' ∧ Kept w w' (fun k_ => P0_ k_) := by
  subst hu
  obtain ⟨_, hnc, hcm, hbg, hok, cur0, hh, hcs, hr⟩ := R_raw ho0
  have hneq : (((i : Nat) : Int) == (l0.length : Int)) = false := beq_eq_false_iff_ne.mpr (by omega)
  have hgt : decide ((c : Int) < (l0.length : Int) + 1) = false := decide_eq_false (by omega)
  obtain ⟨I, hI, hr⟩ : ∃ I : List Value, I = cur0.toList.take (l0.length * 3) ∧ Reps ((k143).M w w0.heap.size (fun k => P0_ k ∧ k ≠ g)) 3 l0 I := ⟨_, rfl, hr⟩
  have hIl : I.length = l0.length * 3 := hr.1
  have hIr : ∀ (j : Nat) (v : Value), I[j]? = some v → cur0[j]? = some v := by
    intro j v hj
    rw [hI, List.getElem?_take] at hj
    split at hj
    · rw [Array.getElem?_toList] at hj; exact hj
    · cases hj
  obtain ⟨ad2, rfl, hcell2⟩ := (hr2 w (Kept.refl _ _)).2.2 (by omega)
  obtain ⟨cs2, hl2, hK2, hcc2⟩ := hcell2 0 y rfl
  have hg2 : ad2.block ≠ g := apart_of_kept hok hr2 (by omega) (by decide) ad2 rfl
  have hcell0 : ∃ v, w.cell? ad2 = some v := by
    have h0_ : 0 < cs2.length := by have h_ : cs2.length = 3 := hl2; omega
    have hq := hcc2 0 _ (List.getElem?_eq_getElem h0_)
    rw [Nat.zero_mul, Nat.zero_add] at hq
    exact ⟨_, by simpa [Addr.add] using hq⟩
  have hcut1 := cut_own (P := Try.prog) 28 143 3 Try.underlying28 insert_Window.sizeE .i64 g l0.length c i (by omega) (by omega)
  have hcut2 := cut_own (P := Try.prog) 28 143 3 Try.underlying28 insert_Window.sizeE .i64 g (l0.length + 1) c i (by omega) (by omega)
  have hcut3 := cut_own (P := Try.prog) 28 143 3 Try.underlying28 insert_Window.sizeE .i64 g (l0.length + 1) c (i + 1) (by omega) (by omega)
  rw [show ((i + 1 : Nat) : Int) = (i : Int) + 1 by omega, show l0.length + 1 - (i + 1) = l0.length - i by omega] at hcut3
  have hov : (callFunc 163 #[.slice (some ad2) 1 c2, .slice (some ⟨g, (i + 1) * 3, none⟩) (l0.length - i) (c - (i + 1))]).run Try.prog w = .ok (.value (.bool false)) w := by
    rw [run_callFunc_extern Try.func163 (by kernel_rfl) (by kernel_rfl) (by kernel_rfl) (e := Extern.SlicesOverlaps.overlaps #[28, 28] #[4]) (by kernel_rfl)]
    rw [run_overlaps_own w 28 4 143 Try.underlying28 3 insert_Window.sizeE (some ad2) 1 c2 ⟨g, (i + 1) * 3, none⟩ (l0.length - i) (c - (i + 1)) (fun ad h => by injection h with h; subst h; exact hg2) (fun ad h _ => by injection h with h; subst h; exact hcell0) hh (by rw [hcs]; show c * 3 ≠ 0; omega)]
    rfl
  have HCC2 := Aside0.mk hcc2
  have HL2 := Aside0.mk hl2
  have HK2 := Aside0.mk hK2
  have HO := Aside0.mk ho0
  have HR := Aside0.mk hr2
  have HB := Aside0.mk hB
  have HH := Aside0.mk hh
  have HRR := Aside0.mk hr
  have HIL := Aside0.mk hIl
  have HIR := Aside0.mk hIr
  have HCS := Aside0.mk (show cur0.size = c * 3 from hcs)
  have HCM := Aside0.mk hcm
  have HIT := Aside0.mk hI
  clear hcell0 hg2 hcell2 hcc2 hl2 hK2 hcs hI ho0 hr2 hB hh hr hIr hIl hcm
  go_enter Try.func91, Try.ntmps91
  go_upto_region 15 with (fail)
  have hwr : IntKind.i64.wrap ((i : Int) + 1) = (i : Int) + 1 := IntWalk.i64_in _ (by omega)
  go_still_tail 8, (by kernel_rfl)
  clear hwr
  change wpList _ _ _ _ _ w.drew
  refine raw_copy rfl (.tmp 73) (.tmp 76) 28 143 3 rfl Try.underlying28 insert_Window.infoE (I.drop (i * 3)) rfl rfl ?n ?src ?one HH.out ?fit ?_
  case n => rw [List.length_drop, HIL.out, show Nat.min (l0.length + 1 - i) (l0.length - i) = l0.length - i from Nat.min_eq_right (by omega)]; omega
  case src =>
    intro j v hj
    rw [show (⟨g, i * 3, none⟩ : Addr).add j = ⟨g, i * 3 + j, none⟩ from by unfold Addr.add; split <;> simp_all]
    rw [cell_of_row w.drew g _ cur0 143 (0, 0) HH.out]
    rw [List.getElem?_drop] at hj
    exact HIR.out _ _ hj
  case one =>
    intro v hv
    exact Kd.reps_one HRR.out (by decide) (fun _ _ hp => (k143).K_one ((k143).K_of_M hp)) v (List.mem_of_mem_drop hv)
  case fit => rw [List.length_drop, HIL.out, HCS.out]; omega
  intro w2 cur2 hh2 hs2 hl2 hg2 hf2
  have HH2 := Aside0.mk hh2
  have HS2 := Aside0.mk hs2
  have HLL2 := Aside0.mk hl2
  have HG2 := Aside0.mk hg2
  have HF2 := Aside0.mk hf2
  have hne2 : ad2.block ≠ g := apart_of_kept hok HR.out (by omega) (by decide) ad2 rfl
  have SN := Aside0.mk (show cs2.length = Nat.min 1 (l0.length + 1 - i) * 3 by rw [show Nat.min 1 (l0.length + 1 - i) = 1 from Nat.min_eq_left (by omega)]; exact HL2.out)
  have SS := Aside0.mk (show ∀ j v, cs2[j]? = some v → w2.cell? (ad2.add j) = some v by
    intro j v hj
    have hq := HCC2.out j v hj
    rw [Nat.zero_mul, Nat.zero_add] at hq
    rw [← hq]
    refine World.cell?_of_block ?_
    have hb_ : (ad2.add j).block = ad2.block := by unfold Addr.add; split <;> rfl
    rw [hb_]
    exact (HF2.out _ hne2))
  have SF := Aside0.mk (show i * 3 + cs2.length ≤ cur2.size by have h1_ : cs2.length = 3 := HL2.out; rw [h1_, HS2.out, HCS.out]; omega)
  clear hh2 hs2 hl2 hg2 hf2 hne2
  (try simp only [Act.put, List.setIfInBounds_toArray, List.set_cons_zero, List.set_cons_succ])
  go_wp2_with ((with_reducible refine gate_dst (N := 82) rfl ?_); refine raw_copy rfl (.tmp 80) (.tmp 81) 28 143 3 rfl Try.underlying28 insert_Window.infoE cs2 rfl rfl SN.out SS.out ((k143).K_one HK2.out) HH2.out SF.out ?_; intro w3 cur3 hh3 hs3 hl3 hg3 hf3; have HH3 := Aside0.mk hh3; have HS3 := Aside0.mk hs3; have HLL3 := Aside0.mk hl3; have HG3 := Aside0.mk hg3; have HF3 := Aside0.mk hf3; clear hh3 hs3 hl3 hg3 hf3)
  (try simp only [Act.put, List.setIfInBounds_toArray, List.set_cons_zero, List.set_cons_succ])
  go_wp2_with fail
  go_ret
  have hcs3 := splice_room cur0.toList I cs2 cur2.toList cur3.toList i l0.length 3 HIL.out hi HL2.out HIT.out.symm (by have h_ : cur0.toList.length = cur0.size := Array.length_toList; rw [h_, HCS.out]; omega) HLL2.out HLL3.out
  have hold : ∀ k, k ≠ g → w3.heap[k]? = w.heap[k]? := fun k hk => (HF3.out k hk).trans (HF2.out k hk)
  have hlen : (l0.take i ++ [y] ++ l0.drop i).length = l0.length + 1 := by simp only [List.length_append, List.length_take, List.length_drop, List.length_singleton]; omega
  have hR : Kd.R k143 143 w3 w0.heap.size (fun k_ => (P0_ k_ ∨ w.heap.size ≤ k_)) (.slice (some ⟨g, 0, none⟩) (l0.take i ++ [y] ++ l0.drop i).length c) (l0.take i ++ [y] ++ l0.drop i) := by
    refine R_make hbg (.inl hok) HH3.out HCM.out (by rw [HS3.out, HS2.out, HCS.out]; rfl) (by rw [hlen]; exact hcap) ?_
    rw [hlen]
    show Reps _ _ _ (List.take ((l0.length + 1) * 3) cur3.toList)
    rw [hcs3]
    refine reps_insert (HRR.out.imp_ (fun p c hp => M_carry hp (fun k hk _ => hold k hk.2) (fun k hk hlt => ⟨.inl hk.1, hk.2⟩))) ?_ (by omega)
    exact (Reps.none _ _).snoc (M_carry (insert_Window.km (base := w0.heap.size) (ok := fun _ => False) _ _ HK2.out) (fun k hk _ => hk.elim) (fun k hk _ => hk.elim)) HL2.out
  rw [hlen] at hR
  have hG2 : w.grownBy w2 (some g) := ⟨HG2.out.os, HG2.out.tape, HG2.out.output, HG2.out.size, HG2.out.block⟩
  have hG3 := World.grownBy.trans hG2 HG3.out
  have hBe : Below w0.heap.size w0 w3 := HB.out.grown hG3 HB.out.size (fun k hk => by injection hk with hk; omega)
  have hKe : Kept w w3 (fun k_ => P0_ k_) := Kept.of_grown hG3 (Kept.refl _ _) (fun k hk => by injection hk with hk; exact .inl (hk ▸ hok))
  exact ⟨.slice (some ⟨g, 0, none⟩) (l0.length + 1) c, rfl, by simpa using hR, hBe, hKe⟩
theorem insert_Window.calls (P0_ : Nat → Prop) (u : Value) (l0 : List (S143)) (a1 : Int) (A2 : Option Addr) (c2 : Nat) (l2 : List (S143)) (r : List (S143)) (w0 w : World) (hB : Below w0.heap.size w0 w) (ho0 : Kd.R k143 143 w w0.heap.size P0_ u l0) (hr2 : ∀ W_, Kept w W_ (fun k_ => P0_ k_) → Kd.C k143 W_ A2 l2.length l2) (hc2 : l2.length ≤ c2) (h : insert_Window.f l0 a1 l2 = some r) :
    Calls Try.prog 91 #[u, .int .i64 a1, .slice A2 l2.length c2] w fun e w' => ∃ v0_ : Value, e = .returned (v0_) ∧ Kd.R k143 143 w' w0.heap.size (fun k_ => (P0_ k_ ∨ w.heap.size ≤ k_)) v0_ r ∧ Below w0.heap.size w0 w' ∧ Kept w w' (fun k_ => P0_ k_) := by
  unfold insert_Window.f at h
  by_cases hc : 0 ≤ a1 ∧ a1 ≤ (l0.length : Int) ∧ l2.length = 1 ∧ l0.length + 1 < 5864062014805
  · rw [if_pos hc] at h
    obtain rfl := Option.some.inj h
    obtain ⟨h0, h1, h2, h3⟩ := hc
    obtain ⟨i, rfl⟩ := Int.eq_ofNat_of_zero_le h0
    rw [Int.toNat_natCast]
    obtain ⟨y, rfl⟩ : ∃ y, l2 = [y] := List.length_eq_one_iff.1 h2
    by_cases hi : i = l0.length
    · subst hi
      rw [List.take_length, List.drop_length, List.append_nil]
      exact insert_Window.last P0_ u l0 A2 c2 [y] w0 w hB ho0 hr2 hc2 h2 h3
    · have hi' : i < l0.length := by omega
      obtain ⟨g, c, rfl, _⟩ := Kd.R_form ho0 (by omega)
      by_cases hcap : c < l0.length + 1
      · exact insert_Window.grow P0_ _ l0 i A2 c2 y w0 w hB ho0 hr2 hc2 hi' h3 g c rfl hcap
      · exact insert_Window.room P0_ _ l0 i A2 c2 y w0 w hB ho0 hr2 hc2 hi' h3 g c rfl (by omega)
  · rw [if_neg hc] at h
    cases h
end Go.Proofs.Ytjgbjahpncfhhaa.PW2
