/- The program's package order: Taken. -/
import Derived.Test.YtdcmjbebkmicaaaOrdA
namespace Go.Proofs.Ytdcmjbebkmicaaa
open Go.RowKit Go.Sort Go.Lib

theorem osquare_eq (s : Int) (b : Bool) (w : World) (h : O.sq s = b) : Calls Try.prog 37 #[.int .i8 s] w fun e w' => e = .returned (.bool b) ∧ w = w' := by
  rw [← h]; exact osquare_any s w
theorem kind_eqO (p k : Int) (w : World) (h0 : 0 ≤ p) (h1 : p ≤ 255) (h : P.kind p = k) :
    Calls Try.prog 40 #[.int .u8 p] w fun e w' => e = .returned (.int .u8 k) ∧ w = w' := by rw [← h]; exact kind_any p w h0 h1
theorem color_eqO (p k : Int) (w : World) (h0 : 0 ≤ p) (h1 : p ≤ 255) (h : P.color p = k) :
    Calls Try.prog 39 #[.int .u8 p] w fun e w' => e = .returned (.int .u8 k) ∧ w = w' := by rw [← h]; exact color_any p w h0 h1
theorem make_eqO (c k v : Int) (w : World) (h0 : 0 ≤ c) (h1 : c ≤ 255) (h2 : 0 ≤ k) (h3 : k ≤ 255) (h : P.make c k = v) :
    Calls Try.prog 41 #[.int .u8 c, .int .u8 k] w fun e w' => e = .returned (.int .u8 v) ∧ w = w' := by rw [← h]; exact make_any c k w h0 h1 h2 h3
set_option maxRecDepth 100000 in
set_option maxHeartbeats 4000000 in
theorem otaken_in (c : Nat → Int) (f t p v : Int) (w : World) (hc : PosOk c) (hbf : O.sq f = true) (hbt : O.sq t = true)
    (hv : (if 1 < c 78 then 0 else if P.color (O.on c t) == 1 - c 78 then P.kind (O.on c t) else if t == c 83 && O.on c f == P.make (c 78) 1 && f % 8 != t % 8 then 1 else 0) = v) :
    Calls Try.prog 14 #[.agg (posC c), .agg (M.cell (f, t, p, 0, false)).toArray] w fun e w' => e = .returned (.int .u8 v) ∧ Grows w w' := by
  have hT := pos_u8' hc (show 78 < 88 by omega) rfl
  have hf : 0 ≤ f ∧ f < 64 := by simpa [O.sq] using hbf
  have ht : 0 ≤ t ∧ t < 64 := by simpa [O.sq] using hbt
  have hX := O.on_bd hc t
  have hY := O.on_bd hc f
  obtain ⟨x, hx⟩ : ∃ x, O.on c t = x := ⟨_, rfl⟩
  obtain ⟨y, hy⟩ : ∃ y, O.on c f = y := ⟨_, rfl⟩
  rw [hx] at hv hX
  rw [hy] at hv hY
  have HC := Lib.hid hc
  clear hc
  obtain ⟨g, hg⟩ : ∃ g, P.color x = g := ⟨_, rfl⟩
  obtain ⟨k, hk⟩ : ∃ k, P.kind x = k := ⟨_, rfl⟩
  obtain ⟨mk, hmk⟩ : ∃ k, P.make (c 78) 1 = k := ⟨_, rfl⟩
  have hg2 := P.color_bd x hX.1 hX.2
  have hk2 := P.kind_bd x hX.1 hX.2
  rw [hg] at hv hg2
  rw [hk] at hv hk2
  rw [hmk] at hv
  obtain ⟨T, hTT⟩ : ∃ T, c 78 = T := ⟨_, rfl⟩
  rw [hTT] at hv hT hmk
  obtain ⟨E, hE⟩ : ∃ E, c 83 = E := ⟨_, rfl⟩
  rw [hE] at hv
  unfold M.cell
  have hgw : Grows w ((w.alloc (.cells (posC c) 31)).alloc (.cells (#[.int .i8 f, .int .i8 t, .int .u8 p, .int .u8 0, .bool false] : Array Value) 33)) := (Grows.alloc _ _).trans (Grows.alloc _ _)
  have HP := Lib.hid (fun W (h : Grows ((w.alloc (.cells (posC c) 31)).alloc (.cells (#[.int .i8 f, .int .i8 t, .int .u8 p, .int .u8 0, .bool false] : Array Value) 33)) W) => ((PosAt.new w c).alloc (.cells (#[.int .i8 f, .int .i8 t, .int .u8 p, .int .u8 0, .bool false] : Array Value) 33)).below h.below)
  have HF : Hid (∀ W, Grows ((w.alloc (.cells (posC c) 31)).alloc (.cells (#[.int .i8 f, .int .i8 t, .int .u8 p, .int .u8 0, .bool false] : Array Value) 33)) W → W.cell? ⟨w.heap.size, 78, none⟩ = some (.int .u8 T) ∧ W.cell? ⟨w.heap.size, 83, none⟩ = some (.int .i8 E) ∧ W.cell? ⟨w.heap.size + 1, 0, none⟩ = some (.int .i8 f) ∧ W.cell? ⟨w.heap.size + 1, 1, none⟩ = some (.int .i8 t)) := Lib.hid (fun W h => by
    have h1 := HP.out W h
    have h2 := (RowAt.new (w.alloc (.cells (posC c) 31)) (#[.int .i8 f, .int .i8 t, .int .u8 p, .int .u8 0, .bool false] : Array Value) 33).below h.below
    rw [show (w.alloc (.cells (posC c) 31)).heap.size = w.heap.size + 1 by show (w.heap.push _).size = _; simp] at h2
    refine ⟨?_, ?_, ?_, ?_⟩
    · rw [h1.cell (by omega), hTT]; rfl
    · rw [h1.cell (by omega), hE]; rfl
    · rw [h2.cell]; rfl
    · rw [h2.cell]; rfl)
  have HS := Lib.hid (fun W (h : Grows ((w.alloc (.cells (posC c) 31)).alloc (.cells (#[.int .i8 f, .int .i8 t, .int .u8 p, .int .u8 0, .bool false] : Array Value) 33)) W) => (show w.heap.size < W.heap.size ∧ w.heap.size + 1 < W.heap.size from by
    have := h.below.size
    have e : ((w.alloc (.cells (posC c) 31)).alloc (.cells (#[.int .i8 f, .int .i8 t, .int .u8 p, .int .u8 0, .bool false] : Array Value) 33)).heap.size = w.heap.size + 2 := by show ((w.heap.push _).push _).size = _; simp
    omega))
  by_cases h1 : 1 < T
  · rw [if_pos h1] at hv
    subst hv
    go_enter Try.func14, Try.ntmps14
    go_wp2_with (first
          | ((with_reducible refine wp_load_box rfl _ rfl ?_); refine ⟨_, _, rfl, HP.out _ (by assumption), ?_⟩)
          | ((with_reducible refine wp_load_box_g rfl _ rfl ?_); refine ⟨_, _, rfl, HP.out _ (by assumption), ?_⟩)
          | (go_at_call 37; refine (osquare_eq _ _ _ (by assumption)).mono ?_; rintro e w' ⟨rfl, rfl⟩)
          | (go_at_call 38; refine (O.on_eq _ _ _ _ HC.out (by assumption)).mono ?_; rintro e w' ⟨rfl, hgn⟩; replace hg0 := Grows.trans hg0 hgn; clear hgn; obtain ⟨q78, q83, m0, m1⟩ := HF.out _ hg0; have hls := HS.out _ hg0)
          | (go_at_call 39; refine (color_eqO _ _ _ (by omega) (by omega) (by assumption)).mono ?_; rintro e w' ⟨rfl, rfl⟩)
          | (go_at_call 40; refine (kind_eqO _ _ _ (by omega) (by omega) (by assumption)).mono ?_; rintro e w' ⟨rfl, rfl⟩)
          | (go_at_call 41; refine (make_eqO _ _ _ _ (by omega) (by omega) (by omega) (by omega) (by assumption)).mono ?_; rintro e w' ⟨rfl, rfl⟩)
          | fail)
    go_ret
    exact ⟨rfl, hgw⟩
  · rw [if_neg h1] at hv
    have ew : IntKind.u8.wrap (1 - T) = 1 - T := by unfold IntKind.wrap; simp [IntKind.bits, IntKind.signed]; omega
    have hg0 := Grows.refl ((w.alloc (.cells (posC c) 31)).alloc (.cells (#[.int .i8 f, .int .i8 t, .int .u8 p, .int .u8 0, .bool false] : Array Value) 33))
    by_cases h2 : g = 1 - T
    · have h2' : (g == 1 - T) = true := by simpa using h2
      rw [if_pos h2'] at hv
      subst hv
      go_enter Try.func14, Try.ntmps14
      go_wp2_with (first
          | ((with_reducible refine wp_load_box rfl _ rfl ?_); refine ⟨_, _, rfl, HP.out _ (by assumption), ?_⟩)
          | ((with_reducible refine wp_load_box_g rfl _ rfl ?_); refine ⟨_, _, rfl, HP.out _ (by assumption), ?_⟩)
          | (go_at_call 37; refine (osquare_eq _ _ _ (by assumption)).mono ?_; rintro e w' ⟨rfl, rfl⟩)
          | (go_at_call 38; refine (O.on_eq _ _ _ _ HC.out (by assumption)).mono ?_; rintro e w' ⟨rfl, hgn⟩; replace hg0 := Grows.trans hg0 hgn; clear hgn; obtain ⟨q78, q83, m0, m1⟩ := HF.out _ hg0; have hls := HS.out _ hg0)
          | (go_at_call 39; refine (color_eqO _ _ _ (by omega) (by omega) (by assumption)).mono ?_; rintro e w' ⟨rfl, rfl⟩)
          | (go_at_call 40; refine (kind_eqO _ _ _ (by omega) (by omega) (by assumption)).mono ?_; rintro e w' ⟨rfl, rfl⟩)
          | (go_at_call 41; refine (make_eqO _ _ _ _ (by omega) (by omega) (by omega) (by omega) (by assumption)).mono ?_; rintro e w' ⟨rfl, rfl⟩)
          | fail)
      refine region_grows (by kernel_rfl) (by kernel_rfl) ?_
      repeat (first
        | go_big_quiet_step (first
          | (go_at_call 39; exact quiet_grows_same (color_eqO _ _ _ (by omega) (by omega) (by assumption)))
          | (go_at_call 41; exact quiet_grows_same (make_eqO _ _ _ _ (by omega) (by omega) (by omega) (by omega) (by assumption)))
          | (go_at_call 38; exact quiet_grows (O.on_eq _ _ _ _ HC.out (by assumption))))
        | (go_big_quiet_want; refine quiet_load_grown _ rfl ⟨_, _, rfl, HP.out _ (by assumption), ?_⟩; simp only [Act.put, List.setIfInBounds_toArray, List.set_cons_succ, List.set_cons_zero]; go_big_quiet_on))
      refine wpQuiet_nil ?_
      intro w3 hg3
      replace hg0 := Grows.trans hg0 hg3
      clear hg3
      obtain ⟨q78, q83, m0, m1⟩ := HF.out _ hg0
      have hls := HS.out _ hg0
      go_wp2_with (first
          | ((with_reducible refine wp_load_box rfl _ rfl ?_); refine ⟨_, _, rfl, HP.out _ (by assumption), ?_⟩)
          | ((with_reducible refine wp_load_box_g rfl _ rfl ?_); refine ⟨_, _, rfl, HP.out _ (by assumption), ?_⟩)
          | (go_at_call 37; refine (osquare_eq _ _ _ (by assumption)).mono ?_; rintro e w' ⟨rfl, rfl⟩)
          | (go_at_call 38; refine (O.on_eq _ _ _ _ HC.out (by assumption)).mono ?_; rintro e w' ⟨rfl, hgn⟩; replace hg0 := Grows.trans hg0 hgn; clear hgn; obtain ⟨q78, q83, m0, m1⟩ := HF.out _ hg0; have hls := HS.out _ hg0)
          | (go_at_call 39; refine (color_eqO _ _ _ (by omega) (by omega) (by assumption)).mono ?_; rintro e w' ⟨rfl, rfl⟩)
          | (go_at_call 40; refine (kind_eqO _ _ _ (by omega) (by omega) (by assumption)).mono ?_; rintro e w' ⟨rfl, rfl⟩)
          | (go_at_call 41; refine (make_eqO _ _ _ _ (by omega) (by omega) (by omega) (by omega) (by assumption)).mono ?_; rintro e w' ⟨rfl, rfl⟩)
          | fail)
      go_ret
      exact ⟨rfl, hgw.trans hg0⟩
    · have h2' : (g == 1 - T) = false := by simpa using h2
      rw [h2', if_neg (by simp)] at hv
      by_cases h3 : t = E
      · subst h3
        have h3' : (t == t) = true := by simp
        by_cases h4 : y = mk
        · subst h4
          have h4' : (y == y) = true := by simp
          have e1 : f.tmod 8 = f % 8 := Int.tmod_eq_emod_of_nonneg hf.1
          have e2 : t.tmod 8 = t % 8 := Int.tmod_eq_emod_of_nonneg ht.1
          obtain ⟨b, hb⟩ : ∃ b, (f % 8 != t % 8) = b := ⟨_, rfl⟩
          rw [h3', h4', hb] at hv
          clear h3' h4'
          cases b
          · subst hv
            go_enter Try.func14, Try.ntmps14
            go_wp2_with (first
          | ((with_reducible refine wp_load_box rfl _ rfl ?_); refine ⟨_, _, rfl, HP.out _ (by assumption), ?_⟩)
          | ((with_reducible refine wp_load_box_g rfl _ rfl ?_); refine ⟨_, _, rfl, HP.out _ (by assumption), ?_⟩)
          | (go_at_call 37; refine (osquare_eq _ _ _ (by assumption)).mono ?_; rintro e w' ⟨rfl, rfl⟩)
          | (go_at_call 38; refine (O.on_eq _ _ _ _ HC.out (by assumption)).mono ?_; rintro e w' ⟨rfl, hgn⟩; replace hg0 := Grows.trans hg0 hgn; clear hgn; obtain ⟨q78, q83, m0, m1⟩ := HF.out _ hg0; have hls := HS.out _ hg0)
          | (go_at_call 39; refine (color_eqO _ _ _ (by omega) (by omega) (by assumption)).mono ?_; rintro e w' ⟨rfl, rfl⟩)
          | (go_at_call 40; refine (kind_eqO _ _ _ (by omega) (by omega) (by assumption)).mono ?_; rintro e w' ⟨rfl, rfl⟩)
          | (go_at_call 41; refine (make_eqO _ _ _ _ (by omega) (by omega) (by omega) (by omega) (by assumption)).mono ?_; rintro e w' ⟨rfl, rfl⟩)
          | fail)
            refine region_grows (by kernel_rfl) (by kernel_rfl) ?_
            repeat (first
              | go_big_quiet_step (first
                | (go_at_call 39; exact quiet_grows_same (color_eqO _ _ _ (by omega) (by omega) (by assumption)))
                | (go_at_call 41; exact quiet_grows_same (make_eqO _ _ _ _ (by omega) (by omega) (by omega) (by omega) (by assumption)))
                | (go_at_call 38; exact quiet_grows (O.on_eq _ _ _ _ HC.out (by assumption))))
              | (go_big_quiet_want; refine quiet_load_grown _ rfl ⟨_, _, rfl, HP.out _ (by assumption), ?_⟩; simp only [Act.put, List.setIfInBounds_toArray, List.set_cons_succ, List.set_cons_zero]; go_big_quiet_on))
            refine wpQuiet_nil ?_
            intro w3 hg3
            replace hg0 := Grows.trans hg0 hg3
            clear hg3
            obtain ⟨q78, q83, m0, m1⟩ := HF.out _ hg0
            have hls := HS.out _ hg0
            go_wp2_with (first
          | ((with_reducible refine wp_load_box rfl _ rfl ?_); refine ⟨_, _, rfl, HP.out _ (by assumption), ?_⟩)
          | ((with_reducible refine wp_load_box_g rfl _ rfl ?_); refine ⟨_, _, rfl, HP.out _ (by assumption), ?_⟩)
          | (go_at_call 37; refine (osquare_eq _ _ _ (by assumption)).mono ?_; rintro e w' ⟨rfl, rfl⟩)
          | (go_at_call 38; refine (O.on_eq _ _ _ _ HC.out (by assumption)).mono ?_; rintro e w' ⟨rfl, hgn⟩; replace hg0 := Grows.trans hg0 hgn; clear hgn; obtain ⟨q78, q83, m0, m1⟩ := HF.out _ hg0; have hls := HS.out _ hg0)
          | (go_at_call 39; refine (color_eqO _ _ _ (by omega) (by omega) (by assumption)).mono ?_; rintro e w' ⟨rfl, rfl⟩)
          | (go_at_call 40; refine (kind_eqO _ _ _ (by omega) (by omega) (by assumption)).mono ?_; rintro e w' ⟨rfl, rfl⟩)
          | (go_at_call 41; refine (make_eqO _ _ _ _ (by omega) (by omega) (by omega) (by omega) (by assumption)).mono ?_; rintro e w' ⟨rfl, rfl⟩)
          | fail)
            refine region_grows (by kernel_rfl) (by kernel_rfl) ?_
            repeat (first
              | go_big_quiet_step (first
                | (go_at_call 39; exact quiet_grows_same (color_eqO _ _ _ (by omega) (by omega) (by assumption)))
                | (go_at_call 41; exact quiet_grows_same (make_eqO _ _ _ _ (by omega) (by omega) (by omega) (by omega) (by assumption)))
                | (go_at_call 38; exact quiet_grows (O.on_eq _ _ _ _ HC.out (by assumption))))
              | (go_big_quiet_want; refine quiet_load_grown _ rfl ⟨_, _, rfl, HP.out _ (by assumption), ?_⟩; simp only [Act.put, List.setIfInBounds_toArray, List.set_cons_succ, List.set_cons_zero]; go_big_quiet_on))
            refine wpQuiet_nil ?_
            intro w3 hg3
            replace hg0 := Grows.trans hg0 hg3
            clear hg3
            obtain ⟨q78, q83, m0, m1⟩ := HF.out _ hg0
            have hls := HS.out _ hg0
            go_wp2_with (first
          | ((with_reducible refine wp_load_box rfl _ rfl ?_); refine ⟨_, _, rfl, HP.out _ (by assumption), ?_⟩)
          | ((with_reducible refine wp_load_box_g rfl _ rfl ?_); refine ⟨_, _, rfl, HP.out _ (by assumption), ?_⟩)
          | (go_at_call 37; refine (osquare_eq _ _ _ (by assumption)).mono ?_; rintro e w' ⟨rfl, rfl⟩)
          | (go_at_call 38; refine (O.on_eq _ _ _ _ HC.out (by assumption)).mono ?_; rintro e w' ⟨rfl, hgn⟩; replace hg0 := Grows.trans hg0 hgn; clear hgn; obtain ⟨q78, q83, m0, m1⟩ := HF.out _ hg0; have hls := HS.out _ hg0)
          | (go_at_call 39; refine (color_eqO _ _ _ (by omega) (by omega) (by assumption)).mono ?_; rintro e w' ⟨rfl, rfl⟩)
          | (go_at_call 40; refine (kind_eqO _ _ _ (by omega) (by omega) (by assumption)).mono ?_; rintro e w' ⟨rfl, rfl⟩)
          | (go_at_call 41; refine (make_eqO _ _ _ _ (by omega) (by omega) (by omega) (by omega) (by assumption)).mono ?_; rintro e w' ⟨rfl, rfl⟩)
          | fail)
            go_ret
            exact ⟨rfl, hgw.trans hg0⟩
          · subst hv
            go_enter Try.func14, Try.ntmps14
            go_wp2_with (first
          | ((with_reducible refine wp_load_box rfl _ rfl ?_); refine ⟨_, _, rfl, HP.out _ (by assumption), ?_⟩)
          | ((with_reducible refine wp_load_box_g rfl _ rfl ?_); refine ⟨_, _, rfl, HP.out _ (by assumption), ?_⟩)
          | (go_at_call 37; refine (osquare_eq _ _ _ (by assumption)).mono ?_; rintro e w' ⟨rfl, rfl⟩)
          | (go_at_call 38; refine (O.on_eq _ _ _ _ HC.out (by assumption)).mono ?_; rintro e w' ⟨rfl, hgn⟩; replace hg0 := Grows.trans hg0 hgn; clear hgn; obtain ⟨q78, q83, m0, m1⟩ := HF.out _ hg0; have hls := HS.out _ hg0)
          | (go_at_call 39; refine (color_eqO _ _ _ (by omega) (by omega) (by assumption)).mono ?_; rintro e w' ⟨rfl, rfl⟩)
          | (go_at_call 40; refine (kind_eqO _ _ _ (by omega) (by omega) (by assumption)).mono ?_; rintro e w' ⟨rfl, rfl⟩)
          | (go_at_call 41; refine (make_eqO _ _ _ _ (by omega) (by omega) (by omega) (by omega) (by assumption)).mono ?_; rintro e w' ⟨rfl, rfl⟩)
          | fail)
            refine region_grows (by kernel_rfl) (by kernel_rfl) ?_
            repeat (first
              | go_big_quiet_step (first
                | (go_at_call 39; exact quiet_grows_same (color_eqO _ _ _ (by omega) (by omega) (by assumption)))
                | (go_at_call 41; exact quiet_grows_same (make_eqO _ _ _ _ (by omega) (by omega) (by omega) (by omega) (by assumption)))
                | (go_at_call 38; exact quiet_grows (O.on_eq _ _ _ _ HC.out (by assumption))))
              | (go_big_quiet_want; refine quiet_load_grown _ rfl ⟨_, _, rfl, HP.out _ (by assumption), ?_⟩; simp only [Act.put, List.setIfInBounds_toArray, List.set_cons_succ, List.set_cons_zero]; go_big_quiet_on))
            refine wpQuiet_nil ?_
            intro w3 hg3
            replace hg0 := Grows.trans hg0 hg3
            clear hg3
            obtain ⟨q78, q83, m0, m1⟩ := HF.out _ hg0
            have hls := HS.out _ hg0
            go_wp2_with (first
          | ((with_reducible refine wp_load_box rfl _ rfl ?_); refine ⟨_, _, rfl, HP.out _ (by assumption), ?_⟩)
          | ((with_reducible refine wp_load_box_g rfl _ rfl ?_); refine ⟨_, _, rfl, HP.out _ (by assumption), ?_⟩)
          | (go_at_call 37; refine (osquare_eq _ _ _ (by assumption)).mono ?_; rintro e w' ⟨rfl, rfl⟩)
          | (go_at_call 38; refine (O.on_eq _ _ _ _ HC.out (by assumption)).mono ?_; rintro e w' ⟨rfl, hgn⟩; replace hg0 := Grows.trans hg0 hgn; clear hgn; obtain ⟨q78, q83, m0, m1⟩ := HF.out _ hg0; have hls := HS.out _ hg0)
          | (go_at_call 39; refine (color_eqO _ _ _ (by omega) (by omega) (by assumption)).mono ?_; rintro e w' ⟨rfl, rfl⟩)
          | (go_at_call 40; refine (kind_eqO _ _ _ (by omega) (by omega) (by assumption)).mono ?_; rintro e w' ⟨rfl, rfl⟩)
          | (go_at_call 41; refine (make_eqO _ _ _ _ (by omega) (by omega) (by omega) (by omega) (by assumption)).mono ?_; rintro e w' ⟨rfl, rfl⟩)
          | fail)
            refine region_grows (by kernel_rfl) (by kernel_rfl) ?_
            repeat (first
              | go_big_quiet_step (first
                | (go_at_call 39; exact quiet_grows_same (color_eqO _ _ _ (by omega) (by omega) (by assumption)))
                | (go_at_call 41; exact quiet_grows_same (make_eqO _ _ _ _ (by omega) (by omega) (by omega) (by omega) (by assumption)))
                | (go_at_call 38; exact quiet_grows (O.on_eq _ _ _ _ HC.out (by assumption))))
              | (go_big_quiet_want; refine quiet_load_grown _ rfl ⟨_, _, rfl, HP.out _ (by assumption), ?_⟩; simp only [Act.put, List.setIfInBounds_toArray, List.set_cons_succ, List.set_cons_zero]; go_big_quiet_on))
            refine wpQuiet_nil ?_
            intro w3 hg3
            replace hg0 := Grows.trans hg0 hg3
            clear hg3
            obtain ⟨q78, q83, m0, m1⟩ := HF.out _ hg0
            have hls := HS.out _ hg0
            go_wp2_with (first
          | ((with_reducible refine wp_load_box rfl _ rfl ?_); refine ⟨_, _, rfl, HP.out _ (by assumption), ?_⟩)
          | ((with_reducible refine wp_load_box_g rfl _ rfl ?_); refine ⟨_, _, rfl, HP.out _ (by assumption), ?_⟩)
          | (go_at_call 37; refine (osquare_eq _ _ _ (by assumption)).mono ?_; rintro e w' ⟨rfl, rfl⟩)
          | (go_at_call 38; refine (O.on_eq _ _ _ _ HC.out (by assumption)).mono ?_; rintro e w' ⟨rfl, hgn⟩; replace hg0 := Grows.trans hg0 hgn; clear hgn; obtain ⟨q78, q83, m0, m1⟩ := HF.out _ hg0; have hls := HS.out _ hg0)
          | (go_at_call 39; refine (color_eqO _ _ _ (by omega) (by omega) (by assumption)).mono ?_; rintro e w' ⟨rfl, rfl⟩)
          | (go_at_call 40; refine (kind_eqO _ _ _ (by omega) (by omega) (by assumption)).mono ?_; rintro e w' ⟨rfl, rfl⟩)
          | (go_at_call 41; refine (make_eqO _ _ _ _ (by omega) (by omega) (by omega) (by omega) (by assumption)).mono ?_; rintro e w' ⟨rfl, rfl⟩)
          | fail)
            go_ret
            exact ⟨rfl, hgw.trans hg0⟩
        · have h4' : (y == mk) = false := by simpa using h4
          have hv0 : v = 0 := by rw [h3', h4'] at hv; simpa using hv.symm
          subst hv0
          clear hv h3'
          go_enter Try.func14, Try.ntmps14
          go_wp2_with (first
          | ((with_reducible refine wp_load_box rfl _ rfl ?_); refine ⟨_, _, rfl, HP.out _ (by assumption), ?_⟩)
          | ((with_reducible refine wp_load_box_g rfl _ rfl ?_); refine ⟨_, _, rfl, HP.out _ (by assumption), ?_⟩)
          | (go_at_call 37; refine (osquare_eq _ _ _ (by assumption)).mono ?_; rintro e w' ⟨rfl, rfl⟩)
          | (go_at_call 38; refine (O.on_eq _ _ _ _ HC.out (by assumption)).mono ?_; rintro e w' ⟨rfl, hgn⟩; replace hg0 := Grows.trans hg0 hgn; clear hgn; obtain ⟨q78, q83, m0, m1⟩ := HF.out _ hg0; have hls := HS.out _ hg0)
          | (go_at_call 39; refine (color_eqO _ _ _ (by omega) (by omega) (by assumption)).mono ?_; rintro e w' ⟨rfl, rfl⟩)
          | (go_at_call 40; refine (kind_eqO _ _ _ (by omega) (by omega) (by assumption)).mono ?_; rintro e w' ⟨rfl, rfl⟩)
          | (go_at_call 41; refine (make_eqO _ _ _ _ (by omega) (by omega) (by omega) (by omega) (by assumption)).mono ?_; rintro e w' ⟨rfl, rfl⟩)
          | fail)
          refine region_grows (by kernel_rfl) (by kernel_rfl) ?_
          repeat (first
            | go_big_quiet_step (first
              | (go_at_call 39; exact quiet_grows_same (color_eqO _ _ _ (by omega) (by omega) (by assumption)))
              | (go_at_call 41; exact quiet_grows_same (make_eqO _ _ _ _ (by omega) (by omega) (by omega) (by omega) (by assumption)))
              | (go_at_call 38; exact quiet_grows (O.on_eq _ _ _ _ HC.out (by assumption))))
            | (go_big_quiet_want; refine quiet_load_grown _ rfl ⟨_, _, rfl, HP.out _ (by assumption), ?_⟩; simp only [Act.put, List.setIfInBounds_toArray, List.set_cons_succ, List.set_cons_zero]; go_big_quiet_on))
          refine wpQuiet_nil ?_
          intro w3 hg3
          replace hg0 := Grows.trans hg0 hg3
          clear hg3
          obtain ⟨q78, q83, m0, m1⟩ := HF.out _ hg0
          have hls := HS.out _ hg0
          go_wp2_with (first
          | ((with_reducible refine wp_load_box rfl _ rfl ?_); refine ⟨_, _, rfl, HP.out _ (by assumption), ?_⟩)
          | ((with_reducible refine wp_load_box_g rfl _ rfl ?_); refine ⟨_, _, rfl, HP.out _ (by assumption), ?_⟩)
          | (go_at_call 37; refine (osquare_eq _ _ _ (by assumption)).mono ?_; rintro e w' ⟨rfl, rfl⟩)
          | (go_at_call 38; refine (O.on_eq _ _ _ _ HC.out (by assumption)).mono ?_; rintro e w' ⟨rfl, hgn⟩; replace hg0 := Grows.trans hg0 hgn; clear hgn; obtain ⟨q78, q83, m0, m1⟩ := HF.out _ hg0; have hls := HS.out _ hg0)
          | (go_at_call 39; refine (color_eqO _ _ _ (by omega) (by omega) (by assumption)).mono ?_; rintro e w' ⟨rfl, rfl⟩)
          | (go_at_call 40; refine (kind_eqO _ _ _ (by omega) (by omega) (by assumption)).mono ?_; rintro e w' ⟨rfl, rfl⟩)
          | (go_at_call 41; refine (make_eqO _ _ _ _ (by omega) (by omega) (by omega) (by omega) (by assumption)).mono ?_; rintro e w' ⟨rfl, rfl⟩)
          | fail)
          refine region_grows (by kernel_rfl) (by kernel_rfl) ?_
          repeat (first
            | go_big_quiet_step (first
              | (go_at_call 39; exact quiet_grows_same (color_eqO _ _ _ (by omega) (by omega) (by assumption)))
              | (go_at_call 41; exact quiet_grows_same (make_eqO _ _ _ _ (by omega) (by omega) (by omega) (by omega) (by assumption)))
              | (go_at_call 38; exact quiet_grows (O.on_eq _ _ _ _ HC.out (by assumption))))
            | (go_big_quiet_want; refine quiet_load_grown _ rfl ⟨_, _, rfl, HP.out _ (by assumption), ?_⟩; simp only [Act.put, List.setIfInBounds_toArray, List.set_cons_succ, List.set_cons_zero]; go_big_quiet_on))
          refine wpQuiet_nil ?_
          intro w3 hg3
          replace hg0 := Grows.trans hg0 hg3
          clear hg3
          obtain ⟨q78, q83, m0, m1⟩ := HF.out _ hg0
          have hls := HS.out _ hg0
          go_wp2_with (first
          | ((with_reducible refine wp_load_box rfl _ rfl ?_); refine ⟨_, _, rfl, HP.out _ (by assumption), ?_⟩)
          | ((with_reducible refine wp_load_box_g rfl _ rfl ?_); refine ⟨_, _, rfl, HP.out _ (by assumption), ?_⟩)
          | (go_at_call 37; refine (osquare_eq _ _ _ (by assumption)).mono ?_; rintro e w' ⟨rfl, rfl⟩)
          | (go_at_call 38; refine (O.on_eq _ _ _ _ HC.out (by assumption)).mono ?_; rintro e w' ⟨rfl, hgn⟩; replace hg0 := Grows.trans hg0 hgn; clear hgn; obtain ⟨q78, q83, m0, m1⟩ := HF.out _ hg0; have hls := HS.out _ hg0)
          | (go_at_call 39; refine (color_eqO _ _ _ (by omega) (by omega) (by assumption)).mono ?_; rintro e w' ⟨rfl, rfl⟩)
          | (go_at_call 40; refine (kind_eqO _ _ _ (by omega) (by omega) (by assumption)).mono ?_; rintro e w' ⟨rfl, rfl⟩)
          | (go_at_call 41; refine (make_eqO _ _ _ _ (by omega) (by omega) (by omega) (by omega) (by assumption)).mono ?_; rintro e w' ⟨rfl, rfl⟩)
          | fail)
          go_ret
          exact ⟨rfl, hgw.trans hg0⟩
      · have h3' : (t == E) = false := by simpa using h3
        have hv0 : v = 0 := by rw [h3'] at hv; simpa using hv.symm
        subst hv0
        clear hv
        go_enter Try.func14, Try.ntmps14
        go_wp2_with (first
          | ((with_reducible refine wp_load_box rfl _ rfl ?_); refine ⟨_, _, rfl, HP.out _ (by assumption), ?_⟩)
          | ((with_reducible refine wp_load_box_g rfl _ rfl ?_); refine ⟨_, _, rfl, HP.out _ (by assumption), ?_⟩)
          | (go_at_call 37; refine (osquare_eq _ _ _ (by assumption)).mono ?_; rintro e w' ⟨rfl, rfl⟩)
          | (go_at_call 38; refine (O.on_eq _ _ _ _ HC.out (by assumption)).mono ?_; rintro e w' ⟨rfl, hgn⟩; replace hg0 := Grows.trans hg0 hgn; clear hgn; obtain ⟨q78, q83, m0, m1⟩ := HF.out _ hg0; have hls := HS.out _ hg0)
          | (go_at_call 39; refine (color_eqO _ _ _ (by omega) (by omega) (by assumption)).mono ?_; rintro e w' ⟨rfl, rfl⟩)
          | (go_at_call 40; refine (kind_eqO _ _ _ (by omega) (by omega) (by assumption)).mono ?_; rintro e w' ⟨rfl, rfl⟩)
          | (go_at_call 41; refine (make_eqO _ _ _ _ (by omega) (by omega) (by omega) (by omega) (by assumption)).mono ?_; rintro e w' ⟨rfl, rfl⟩)
          | fail)
        refine region_grows (by kernel_rfl) (by kernel_rfl) ?_
        repeat (first
          | go_big_quiet_step (first
            | (go_at_call 39; exact quiet_grows_same (color_eqO _ _ _ (by omega) (by omega) (by assumption)))
            | (go_at_call 41; exact quiet_grows_same (make_eqO _ _ _ _ (by omega) (by omega) (by omega) (by omega) (by assumption)))
            | (go_at_call 38; exact quiet_grows (O.on_eq _ _ _ _ HC.out (by assumption))))
          | (go_big_quiet_want; refine quiet_load_grown _ rfl ⟨_, _, rfl, HP.out _ (by assumption), ?_⟩; simp only [Act.put, List.setIfInBounds_toArray, List.set_cons_succ, List.set_cons_zero]; go_big_quiet_on))
        refine wpQuiet_nil ?_
        intro w3 hg3
        replace hg0 := Grows.trans hg0 hg3
        clear hg3
        obtain ⟨q78, q83, m0, m1⟩ := HF.out _ hg0
        have hls := HS.out _ hg0
        go_wp2_with (first
          | ((with_reducible refine wp_load_box rfl _ rfl ?_); refine ⟨_, _, rfl, HP.out _ (by assumption), ?_⟩)
          | ((with_reducible refine wp_load_box_g rfl _ rfl ?_); refine ⟨_, _, rfl, HP.out _ (by assumption), ?_⟩)
          | (go_at_call 37; refine (osquare_eq _ _ _ (by assumption)).mono ?_; rintro e w' ⟨rfl, rfl⟩)
          | (go_at_call 38; refine (O.on_eq _ _ _ _ HC.out (by assumption)).mono ?_; rintro e w' ⟨rfl, hgn⟩; replace hg0 := Grows.trans hg0 hgn; clear hgn; obtain ⟨q78, q83, m0, m1⟩ := HF.out _ hg0; have hls := HS.out _ hg0)
          | (go_at_call 39; refine (color_eqO _ _ _ (by omega) (by omega) (by assumption)).mono ?_; rintro e w' ⟨rfl, rfl⟩)
          | (go_at_call 40; refine (kind_eqO _ _ _ (by omega) (by omega) (by assumption)).mono ?_; rintro e w' ⟨rfl, rfl⟩)
          | (go_at_call 41; refine (make_eqO _ _ _ _ (by omega) (by omega) (by omega) (by omega) (by assumption)).mono ?_; rintro e w' ⟨rfl, rfl⟩)
          | fail)
        refine region_grows (by kernel_rfl) (by kernel_rfl) ?_
        repeat (first
          | go_big_quiet_step (first
            | (go_at_call 39; exact quiet_grows_same (color_eqO _ _ _ (by omega) (by omega) (by assumption)))
            | (go_at_call 41; exact quiet_grows_same (make_eqO _ _ _ _ (by omega) (by omega) (by omega) (by omega) (by assumption)))
            | (go_at_call 38; exact quiet_grows (O.on_eq _ _ _ _ HC.out (by assumption))))
          | (go_big_quiet_want; refine quiet_load_grown _ rfl ⟨_, _, rfl, HP.out _ (by assumption), ?_⟩; simp only [Act.put, List.setIfInBounds_toArray, List.set_cons_succ, List.set_cons_zero]; go_big_quiet_on))
        refine wpQuiet_nil ?_
        intro w3 hg3
        replace hg0 := Grows.trans hg0 hg3
        clear hg3
        obtain ⟨q78, q83, m0, m1⟩ := HF.out _ hg0
        have hls := HS.out _ hg0
        go_wp2_with (first
          | ((with_reducible refine wp_load_box rfl _ rfl ?_); refine ⟨_, _, rfl, HP.out _ (by assumption), ?_⟩)
          | ((with_reducible refine wp_load_box_g rfl _ rfl ?_); refine ⟨_, _, rfl, HP.out _ (by assumption), ?_⟩)
          | (go_at_call 37; refine (osquare_eq _ _ _ (by assumption)).mono ?_; rintro e w' ⟨rfl, rfl⟩)
          | (go_at_call 38; refine (O.on_eq _ _ _ _ HC.out (by assumption)).mono ?_; rintro e w' ⟨rfl, hgn⟩; replace hg0 := Grows.trans hg0 hgn; clear hgn; obtain ⟨q78, q83, m0, m1⟩ := HF.out _ hg0; have hls := HS.out _ hg0)
          | (go_at_call 39; refine (color_eqO _ _ _ (by omega) (by omega) (by assumption)).mono ?_; rintro e w' ⟨rfl, rfl⟩)
          | (go_at_call 40; refine (kind_eqO _ _ _ (by omega) (by omega) (by assumption)).mono ?_; rintro e w' ⟨rfl, rfl⟩)
          | (go_at_call 41; refine (make_eqO _ _ _ _ (by omega) (by omega) (by omega) (by omega) (by assumption)).mono ?_; rintro e w' ⟨rfl, rfl⟩)
          | fail)
        go_ret
        exact ⟨rfl, hgw.trans hg0⟩

end Go.Proofs.Ytdcmjbebkmicaaa
