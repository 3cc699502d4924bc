import Derived.Test.YtjgbjahpncfhhaaQ1PW2x0
import Derived.WalkSpells
import Derived.Test.YtjgbjahpncfhhaaQ1HK
namespace Go.Proofs.Ytjgbjahpncfhhaa.PW2
open Go.RowKit Go.Proofs.YtjgbjahpncfhhaaW.PrintWords Go.Proofs.YtjgbjahpncfhhaaW.PrintLast Go.Proofs.YtjgbjahpncfhhaaW.PrintMore Go.Proofs.Ytjgbjahpncfhhaa.HK
set_option linter.unusedVariables false
set_option linter.unusedSimpArgs false
def delete_Window.p (cap : Int) (x : S143) : Bool := !(decide (x.f0 = cap))
set_option maxHeartbeats 4000000 in
set_option maxRecDepth 100000 in
theorem delete_Window.lit (x : S143) (gb : Nat)  (cap : Int) (W : World) (hb : W.heap[gb]? = some (.cells #[.int .i64 cap] 3 (0, 0))) :
    Calls Try.prog 77 #[.agg #[.int .i64 x.f0, .int .i64 x.f1, .int .i64 x.f2], .pointer (some ⟨gb, 0, none⟩)] W fun e W' => e = .returned (.bool (delete_Window.p cap x)) ∧ Below W.heap.size W W' := by
  have hgb : gb < W.heap.size := blk_lt hb
  have hc : W.cell? ⟨gb, 0, none⟩ = some (.int .i64 cap) := (blk_cell hb 0).trans rfl
  clear hb
  go_enter Try.func77, Try.ntmps77
  go_wp2
  go_ret
  exact ⟨by unfold delete_Window.p; rfl, by repeat (first | exact Below.refl _ _ | apply below_alloc | apply pw_below_drewN | apply below_drew1)⟩
set_option maxHeartbeats 4000000 in
set_option maxRecDepth 100000 in
theorem delete_Window.idx (gb : Nat)  (cap : Int) (A0 : Option Addr) (c0 : Nat) (l0 : List (S143)) (w : World) (hr0 : Kd.C k143 w A0 l0.length l0) (hb : w.heap[gb]? = some (.cells #[.int .i64 cap] 3 (0, 0))) :
    Calls Try.prog 157 #[.slice A0 l0.length c0, .func (.func 77) #[] #[.pointer (some ⟨gb, 0, none⟩)]] w fun e w' => e = .returned (.int .i64 (idxOf (delete_Window.p cap) l0)) ∧ Below w.heap.size w w' := by
  have hu := Try.underlying143
  have HR := Aside0.mk hr0
  have hn : l0.length ≤ 9223372036854775807 := hr0.2.1
  have HBK := Aside0.mk hb; clear hb
  clear hr0
  go_enter Try.func157, Try.ntmps157
  go_wp2_with fail
  go_loopw [5, 8] (fun _ i wr => ∃ k : Nat, k ≤ l0.length ∧ i = .int .i64 k ∧ Aside0 (∀ (j : Nat) (hj : j < k) (hl : j < l0.length), delete_Window.p cap (l0[j]) = false) ∧ Aside0 (Below w.heap.size w wr)) (fun _ i _ => l0.length - (intOf i).toNat)
  case atStart => exact ⟨0, Nat.zero_le _, rfl, ⟨fun j hj => absurd hj (by omega)⟩, ⟨Below.refl _ _⟩⟩
  case round =>
    obtain ⟨k, hk, rfl, HN, HB⟩ := hrel
    by_cases hlt : k < l0.length
    · obtain ⟨ad, e, g0, g1, g2⟩ := at_T143 (Kd.C_below HR.out HB.out) (k : Int) (by omega) (by omega)
      subst e
      rw [Int.toNat_natCast] at g0 g1 g2
      generalize hx : rd_T143 l0 (k : Int) = x at g0 g1 g2
      have HX : Aside0 (l0[k] = x) := ⟨by rw [← hx]; simp [rd_T143, hlt]⟩
      clear hx
      cases hpx : delete_Window.p cap x with
      | true =>
        have HP := Aside0.mk hpx
        have HC := Aside0.mk (delete_Window.lit x gb  cap wr (blk_below HBK.out HB.out))
        rw [hpx] at HC
        clear hpx
        go_wp2_with (go_at_call 77; (with_reducible refine HC.out.mono ?_); rintro e w' ⟨rfl, hb⟩)
        go_ret
        exact ⟨by rw [idxOf_hit _ l0 k hlt (fun j hj => HN.out j hj (by omega)) (by rw [HX.out]; exact HP.out)]; rfl, below_step HB.out hb⟩
      | false =>
        have HP := Aside0.mk hpx
        have HC := Aside0.mk (delete_Window.lit x gb  cap wr (blk_below HBK.out HB.out))
        rw [hpx] at HC
        clear hpx
        go_wp2_with (go_at_call 77; (with_reducible refine HC.out.mono ?_); rintro e w' ⟨rfl, hb⟩)
        go_roundw
        case rel =>
          refine ⟨k + 1, by omega, by go_num, ⟨fun j hj hl => ?_⟩, ⟨below_step HB.out hb⟩⟩
          rcases Nat.lt_or_ge j k with h | h
          · exact HN.out j h hl
          · obtain rfl : j = k := by omega
            rw [HX.out]; exact HP.out
        case measure => simp [intOf]; omega
    · go_wp2_with fail
      go_ret
      exact ⟨by rw [idxOf_none _ l0 (fun j hj => HN.out j (by omega) hj)]; rfl, HB.out⟩
def delete_Window.f (l0 : List (S143)) (cap : Int) : Option (List (S143)) := some (l0.filter (fun x => !(delete_Window.p cap x)))
theorem delete_Window.zero (w : World) : (zeroValue 143).run Try.prog w = .ok (.agg #[(.int .i64 0), (.int .i64 0), (.int .i64 0)]) w := by kernel_rfl
theorem delete_Window.sizeE (w : World) : (Go.sizeOf 143).run Try.prog w = .ok 3 w := by kernel_rfl
set_option maxHeartbeats 4000000 in
set_option maxRecDepth 100000 in
theorem delete_Window.calls (P0_ : Nat → Prop) (u : Value) (l0 : List (S143)) (gb : Nat)  (cap : Int) (r : List (S143)) (w0 w : World) (hB : Below w0.heap.size w0 w) (ho0 : Kd.R k143 143 w w0.heap.size P0_ u l0) (hb : w.heap[gb]? = some (.cells #[.int .i64 cap] 3 (0, 0))) (h : delete_Window.f l0 cap = some r) :
    Calls Try.prog 75 #[u, .func (.func 77) #[] #[.pointer (some ⟨gb, 0, none⟩)]] w fun e w' => ∃ v0_ : Value, e = .returned (v0_) ∧ Kd.R k143 143 w' w0.heap.size (fun k_ => (P0_ k_ ∨ w.heap.size ≤ k_)) v0_ r ∧ Below w0.heap.size w0 w' ∧ Kept w w' (fun k_ => P0_ k_) := by
  obtain rfl := Option.some.inj h
  have hu := Try.underlying28
  have hue := Try.underlying143
  obtain ⟨A, c, rfl, hc⟩ := Kd.R_reads ho0
  have hcr := hc.2
  have hn : l0.length ≤ 9223372036854775807 := hcr.2.1
  have hnc : l0.length ≤ c := hc.1
  have HC := Aside0.mk (delete_Window.idx gb  cap A c l0 w hcr hb)
  have HBK := Aside0.mk hb; clear hb
  have HO := Aside0.mk ho0
  have HB := Aside0.mk hB
  clear h hc hcr ho0 hB
  rcases idxOf_cases (delete_Window.p cap) l0 with ⟨he, hn⟩ | ⟨k, hk, he, hp, hbef⟩
  · rw [he] at HC
    have HN := Aside0.mk hn
    clear he hn
    go_enter Try.func75, Try.ntmps75
    go_wp2_with (go_at_call 157; (with_reducible refine HC.out.mono ?_); rintro e w' ⟨rfl, hb⟩)
    go_ret
    have hf : l0.filter (fun x => !(delete_Window.p cap x)) = l0 := by
      rw [List.filter_eq_self]
      intro x hx
      obtain ⟨j, hj, rfl⟩ := List.mem_iff_getElem.1 hx
      rw [HN.out j hj]; rfl
    rw [hf]
    exact ⟨_, rfl, Kd.R_mono (Kd.R_below HO.out hb) (fun k_ hk => .inl hk), below_then HB.out HB.out.size hb, Kept.of_below hb _⟩
  · rw [he] at HC
    obtain ⟨g, c1, hv, hbg, hgl, cells0, hh0⟩ := Kd.R_form HO.out (by omega)
    injection hv with hA hN hcc
    subst hA
    subst hcc
    have HNE : Aside0 (¬ gb = g) := ⟨fun h_ => by have hb_ := HBK.out; rw [h_, hh0] at hb_; injection hb_ with hb_; injection hb_ with _ ht_; exact absurd ht_ (by decide)⟩
    have HGB := Aside0.mk hbg
    have HGL := Aside0.mk hgl
    have HOK : Aside0 (P0_ g) := ⟨HO.out.1 g rfl⟩
    have HSZ := Aside0.mk HB.out.size
    have HR := Aside0.mk (show Kd.R k143 143 w w0.heap.size (fun k_ => P0_ k_ ∧ k_ < w.heap.size) (.slice (some ⟨g, 0, none⟩) l0.length c) l0 from Kd.R_mono (Kd.R_bound HO.out) (fun k_ hk => ⟨hk.1, hk.2.2.1⟩))
    have HLIT : Aside0 (∀ (x : S143) (W : World), Kept w W (fun k_ => k_ = g) → Calls Try.prog 77 #[.agg #[.int .i64 x.f0, .int .i64 x.f1, .int .i64 x.f2], .pointer (some ⟨gb, 0, none⟩)] W fun e W' => e = .returned (.bool (delete_Window.p cap x)) ∧ Below W.heap.size W W') := ⟨fun x W hK_ => delete_Window.lit x gb  cap _ ((hK_.2 gb (blk_lt HBK.out) HNE.out).trans HBK.out)⟩
    have HP := Aside0.mk hp
    have HBF := Aside0.mk hbef
    clear he hp hbef hbg hgl hh0
    go_enter Try.func75, Try.ntmps75
    go_wp2_with (go_at_call 157; (with_reducible refine HC.out.mono ?_); rintro e w' ⟨rfl, hb⟩)
    go_loopw [5, 6] (fun vi vj wr => ∃ (i j : Nat) (L : List (S143)), vi = .int .i64 (i : Int) ∧ vj = .int .i64 (j : Int) ∧ i < j ∧ j ≤ l0.length ∧ L.length = l0.length ∧ Aside0 (L.take i = (l0.take j).filter (fun x => !(delete_Window.p cap x))) ∧ Aside0 (L.drop j = l0.drop j) ∧ Aside0 (Kd.R k143 143 wr w0.heap.size (fun k_ => P0_ k_ ∧ k_ < w.heap.size) (.slice (some ⟨g, 0, none⟩) l0.length c) L) ∧ Aside0 (Below w0.heap.size w0 wr) ∧ Aside0 (Kept w wr (fun k_ => k_ = g))) (fun _ vj _ => l0.length - (intOf vj).toNat)
    case atStart =>
      refine ⟨k, k + 1, l0, rfl, rfl, by omega, by omega, rfl, ⟨?_⟩, ⟨rfl⟩, ⟨Kd.R_below HR.out hb⟩, ⟨below_then HB.out HSZ.out hb⟩, ⟨Kept.of_below hb _⟩⟩
      rw [List.take_succ_eq_append_getElem hk, List.filter_append, List.filter_cons_of_neg (by rw [HP.out]; decide), List.filter_nil, List.append_nil]
      refine (List.filter_eq_self.2 ?_).symm
      intro x hx
      obtain ⟨q, hq, rfl⟩ := List.mem_iff_getElem.1 hx
      rw [List.getElem_take, HBF.out q (by rw [List.length_take] at hq; omega)]; rfl
    case round =>
      obtain ⟨i, j, L, rfl, rfl, hij, hjn, hLL, HT, HD, HR, HB, HK⟩ := hrel
      by_cases hlt : j < l0.length
      · obtain ⟨ce, hcl, hM, hcc, hfr⟩ := Kd.R_elem HR.out z143 (j : Int) (by omega) (by omega)
        have HX0 : L.getD ((j : Int).toNat) z143 = l0[j] := by
          have h1 : L[j]? = l0[j]? := by have hd := congrArg (fun l => l[0]?) HD.out; simpa using hd
          simp [List.getD, h1, hlt]
        rw [HX0] at hM
        generalize hx : l0[j] = x at hM
        have HX := Aside0.mk hx
        obtain rfl := k143_openM hM
        have hx0 : wr.cell? ⟨g, j * 3, none⟩ = some (.int .i64 x.f0) := hcc 0 _ rfl
        have hx1 : wr.cell? ⟨g, j * 3 + 1, none⟩ = some (.int .i64 x.f1) := hcc 1 _ rfl
        have hx2 : wr.cell? ⟨g, j * 3 + 2, none⟩ = some (.int .i64 x.f2) := hcc 2 _ rfl
        clear hM hcc hfr hcl HX0 hx
        have HZ := Aside0.mk HK.out.1
        cases hpx : delete_Window.p cap x with
        | true =>
          have HPX := Aside0.mk hpx
          have HL : Aside0 (∀ (W : World), Kept w W (fun k_ => k_ = g) → Calls Try.prog 77 #[.agg #[.int .i64 x.f0, .int .i64 x.f1, .int .i64 x.f2], .pointer (some ⟨gb, 0, none⟩)] W fun e W' => e = .returned (.bool true) ∧ Below W.heap.size W W') := ⟨fun W hK_ => by have h_ := HLIT.out x W hK_; rw [hpx] at h_; exact h_⟩
          clear hpx
          go_wp2_with (first | (go_at_call 77; have hK1 : Kept w (wr.alloc (.cells ([.int .i64 x.f0, .int .i64 x.f1, .int .i64 x.f2]).toArray 143)) (fun k_ => k_ = g) := Kept.then_ HK.out (Kept.of_below (below_alloc (Below.refl _ _) _) (fun _ => False)) (fun k_ h_ => h_.elim); (with_reducible refine (HL.out _ ?hk_).mono ?_); (case hk_ => exact hK1); rintro e w2 ⟨rfl, hb⟩; have hu0 : w2.cell? ⟨wr.heap.size, 0, none⟩ = some (.int .i64 x.f0) := pw_cell_below hb ((blk_cell (blk_new wr _) 0).trans rfl); have hu1 : w2.cell? ⟨wr.heap.size, 1, none⟩ = some (.int .i64 x.f1) := pw_cell_below hb ((blk_cell (blk_new wr _) 1).trans rfl); have hu2 : w2.cell? ⟨wr.heap.size, 2, none⟩ = some (.int .i64 x.f2) := pw_cell_below hb ((blk_cell (blk_new wr _) 2).trans rfl); have n0_ := Aside0.mk (Kd.R_below (Kd.R_alloc HR.out _) hb); have n1_ := Aside0.mk (below_then (below_alloc HB.out _) (Nat.le_trans HSZ.out hK1.1) hb); have n2_ := Aside0.mk (Kept.then_ hK1 (Kept.of_below hb (fun _ => False)) (fun k_ h_ => h_.elim)); clear HR HB HK HZ hb hK1; have HR := n0_; have HB := n1_; have HK := n2_; have HZ := Aside0.mk HK.out.1; clear n0_ n1_ n2_))
          go_roundw
          case rel =>
            refine ⟨_, _, _, _, _, _, _, _, _, _, _, _, _, _, _, _, _, _, _, _, _, _, _, ?q_, rfl⟩
            refine ⟨i, j + 1, L, rfl, by go_num, by omega, by omega, hLL, ⟨?_⟩, ⟨?_⟩, HR, HB, HK⟩
            · rw [List.take_succ_eq_append_getElem hlt, List.filter_append, List.filter_cons_of_neg (by rw [HX.out, HPX.out]; decide), List.filter_nil, List.append_nil]; exact HT.out
            · have h_ := congrArg (List.drop 1) HD.out; simpa [List.drop_drop, Nat.add_comm] using h_
          case measure => simp [intOf]; omega
        | false =>
          have HPX := Aside0.mk hpx
          have HL : Aside0 (∀ (W : World), Kept w W (fun k_ => k_ = g) → Calls Try.prog 77 #[.agg #[.int .i64 x.f0, .int .i64 x.f1, .int .i64 x.f2], .pointer (some ⟨gb, 0, none⟩)] W fun e W' => e = .returned (.bool false) ∧ Below W.heap.size W W') := ⟨fun W hK_ => by have h_ := HLIT.out x W hK_; rw [hpx] at h_; exact h_⟩
          clear hpx
          go_wp2_with (first | (go_at_call 77; have hK1 : Kept w (wr.alloc (.cells ([.int .i64 x.f0, .int .i64 x.f1, .int .i64 x.f2]).toArray 143)) (fun k_ => k_ = g) := Kept.then_ HK.out (Kept.of_below (below_alloc (Below.refl _ _) _) (fun _ => False)) (fun k_ h_ => h_.elim); (with_reducible refine (HL.out _ ?hk_).mono ?_); (case hk_ => exact hK1); rintro e w2 ⟨rfl, hb⟩; have hu0 : w2.cell? ⟨wr.heap.size, 0, none⟩ = some (.int .i64 x.f0) := pw_cell_below hb ((blk_cell (blk_new wr _) 0).trans rfl); have hu1 : w2.cell? ⟨wr.heap.size, 1, none⟩ = some (.int .i64 x.f1) := pw_cell_below hb ((blk_cell (blk_new wr _) 1).trans rfl); have hu2 : w2.cell? ⟨wr.heap.size, 2, none⟩ = some (.int .i64 x.f2) := pw_cell_below hb ((blk_cell (blk_new wr _) 2).trans rfl); have n0_ := Aside0.mk (Kd.R_below (Kd.R_alloc HR.out _) hb); have n1_ := Aside0.mk (below_then (below_alloc HB.out _) (Nat.le_trans HSZ.out hK1.1) hb); have n2_ := Aside0.mk (Kept.then_ hK1 (Kept.of_below hb (fun _ => False)) (fun k_ h_ => h_.elim)); clear HR HB HK HZ hb hK1; have HR := n0_; have HB := n1_; have HK := n2_; have HZ := Aside0.mk HK.out.1; clear n0_ n1_ n2_; obtain ⟨ci, hcli, hMi, hcci, hfri⟩ := Kd.R_elem HR.out z143 (i : Int) (by omega) (by omega); obtain rfl := k143_openM hMi; have hi0 : w2.cell? ⟨g, i * 3, none⟩ = some _ := hcci 0 _ rfl; have hf0 : w2.frozen? ⟨g, i * 3, none⟩ = false := hfri 0; have hi1 : w2.cell? ⟨g, i * 3 + 1, none⟩ = some _ := hcci 1 _ rfl; have hf1 : w2.frozen? ⟨g, i * 3 + 1, none⟩ = false := hfri 1; have hi2 : w2.cell? ⟨g, i * 3 + 2, none⟩ = some _ := hcci 2 _ rfl; have hf2 : w2.frozen? ⟨g, i * 3 + 2, none⟩ = false := hfri 2; have HPS := Kd.R_seg HR.out (i : Int) (by omega) (by omega) (seg := [.int .i64 x.f0, .int .i64 x.f1, .int .i64 x.f2]) (j := 0) hcli hcci (show 3 ≤ 3 from by decide) (x' := x) (k143_mkM _ _ _ x) (fun _ hk_ => hk_); clear hcli hMi hcci hfri) | ((with_reducible refine gate_store (t := 143) (p := 33) rfl ?_); refine store_event (t := 143) (p := 33) (v := ?vo_) (w1 := (((w2.setCell ⟨g, i * 3, none⟩ (.int .i64 x.f0)).setCell ⟨g, i * 3 + 1, none⟩ (.int .i64 x.f1)).setCell ⟨g, i * 3 + 2, none⟩ (.int .i64 x.f2))) ?hg ?ho ?hn ?hr ?_; (case ho => rfl); (case hg => rfl); (case hn => rfl); (case hr => first | (go_simp; done) | (go_simp; rfl)); intro w3 hws; have n0_ := Aside0.mk (show Kd.R k143 143 w3 w0.heap.size (fun k_ => P0_ k_ ∧ k_ < w.heap.size) (.slice (some ⟨g, 0, none⟩) l0.length c) (L.set i x) from by rw [hws]; exact HPS.1); have hg3 : World.grownBy _ w3 (some g) := (by rw [hws]; exact HPS.2); have n1_ := Aside0.mk (HB.out.grown hg3 (Nat.le_trans HSZ.out HZ.out) (fun k_ he_ => by injection he_ with he_; rw [← he_]; exact HGB.out)); have n2_ := Aside0.mk (Kept.of_grown hg3 HK.out (fun k_ he_ => by injection he_ with he_; exact .inl he_.symm)); clear HR HB HK HZ HPS hg3 hws; have HR := n0_; have HB := n1_; have HK := n2_; clear n0_ n1_ n2_))
          go_roundw
          case rel =>
            refine ⟨_, _, _, _, _, _, _, _, _, _, _, _, _, _, _, _, _, _, _, _, _, _, _, ?q2_, rfl⟩
            refine ⟨i + 1, j + 1, L.set i x, by go_num, by go_num, by omega, by omega, by rw [List.length_set]; exact hLL, ⟨?_⟩, ⟨?_⟩, HR, HB, HK⟩
            · rw [List.take_succ_eq_append_getElem hlt, List.filter_append, List.filter_cons_of_pos (by rw [HX.out, HPX.out]; rfl), List.filter_nil, ← HT.out, List.take_succ_eq_append_getElem (by rw [List.length_set]; omega), List.take_set_of_le (Nat.le_refl _), List.getElem_set_self, HX.out]
            · rw [List.drop_set_of_lt (by omega)]; have h_ := congrArg (List.drop 1) HD.out; simpa [List.drop_drop, Nat.add_comm] using h_
          case measure => simp [intOf]; omega
      · obtain rfl : j = l0.length := by omega
        have hcut := cut_own (P := Try.prog) 28 143 3 Try.underlying28 delete_Window.sizeE .i64 g l0.length c i (by omega) (by omega)
        go_wp2_with ((with_reducible refine gate_builtin (b := .clear) rfl ?_); refine R_clear k143 (w0 := w0) w0.heap.size rfl (.tmp 38) 28 143 (.agg #[(.int .i64 0), (.int .i64 0), (.int .i64 0)]) rfl Try.underlying28 delete_Window.zero rfl ?c1 (g := g) (n := l0.length) (cap := c) i (c - i) L (fun k_ => P0_ k_ ∧ k_ < w.heap.size) ?cx (by omega) ?cR ?cB ?_; (case c1 => decide); (case cx => rfl); (case cR => exact HR.out); (case cB => exact HB.out); intro w5 hr5 hb5 hg5; have HR5 := Aside0.mk hr5; have HB5 := Aside0.mk hb5; have HG5 := Aside0.mk hg5; clear hr5 hb5 hg5)
        (try simp only [Act.put, List.setIfInBounds_toArray, List.set_cons_zero, List.set_cons_succ])
        go_wp2_with fail
        go_ret
        have hfin : L.take i = l0.filter (fun x => !(delete_Window.p cap x)) := by have h_ := HT.out; rw [List.take_length] at h_; exact h_
        rw [← hfin]
        exact ⟨_, rfl, Kd.R_mono HR5.out (fun k_ hk => .inl hk.1), HB5.out, (Kept.of_grown HG5.out HK.out (fun k_ hk => by injection hk with hk; exact .inl hk.symm)).mono (fun k_ hk => by rw [hk]; exact HOK.out)⟩
end Go.Proofs.Ytjgbjahpncfhhaa.PW2
