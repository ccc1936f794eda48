/- The program's package moves: drops and plain moves are read. -/
import Derived.Test.YtldpejeodhkgdaaMvG
import Derived.Test.YtldpejeodhkgdaaMvH
import Derived.Test.YtldpejeodhkgdaaTakeC
namespace Go.Proofs.Ytldpejeodhkgdaa
open Go.RowKit Go.Sort
attribute [local go_sem] Oper.semAt_some

theorem mv_range {w : World} {g : Nat} {f d x y : Int} {z : Bool} (h : RowAt w g 33 (movC f d x y z)) : w.rangeAt g 0 [.int .i8 f, .int .i8 d, .int .u8 x, .int .u8 y, .bool z] := fun j v hv => by
  rw [Nat.zero_add, h.cell j]
  simpa [movC] using hv
theorem Try.info_mvL (f g x y : Int) (z : Bool) : (Try.prog.info? 33).map (·.size) = some ([.int .i8 f, .int .i8 g, .int .u8 x, .int .u8 y, .bool z] : List Value).length := by kernel_rfl
theorem get_q (p q r t : UInt8) (h : 1 < (⟨#[p, q, r, t]⟩ : ByteArray).size) : (⟨#[p, q, r, t]⟩ : ByteArray)[1]'h = q := rfl

set_option maxRecDepth 100000 in
set_option maxHeartbeats 2000000 in
theorem mvdrop_fix (s : ByteArray) (hs : s.size ≤ 9223372036854775807) : ∃ (g y : Int) (ok : Bool), N.DropR s g y ok ∧ ∀ w, Calls Try.prog 10 #[.string s] w fun e w' => e = .returned (.tuple #[.agg (movC g g 0 y false), .bool ok]) ∧ Below w.heap.size w w' := by
  by_cases h4 : s.size = 4
  · obtain ⟨p, q, r, t, l, rfl⟩ := N.cut4 s (by omega)
    obtain rfl : l = [] := by
      cases l with
      | nil => rfl
      | cons x l => exact absurd h4 (by show ¬ l.length + 1 + 4 = 4; omega)
    by_cases hq : q = 64
    · subst hq
      obtain ⟨x, a, hp⟩ := P.parsed_any ⟨#[p]⟩
      obtain ⟨n, b, hy⟩ := N.sqP_any ⟨#[r, t]⟩
      have hx := P.parsed_facts hp
      have hn := N.sqP_bd hy
      have hD := N.dropR_of hp hy
      have hk := P.kind_bd x hx.1 hx.2.1
      have HX := Lib.hid (fun W => parse_eq _ x a hp W)
      have HY := Lib.hid (fun W => sqparse_eq _ n b hy W)
      have HK : Hid (∀ W, Calls Try.prog 22 #[.int .u8 x] W fun e w' => e = .returned (.int .u8 (P.kind x)) ∧ W = w') := Lib.hid (fun W => kind_any x W hx.1 hx.2.1)
      have HC : Hid (∀ W, Calls Try.prog 23 #[.int .u8 x] W fun e w' => e = .returned (.int .u8 (P.color x)) ∧ W = w') := Lib.hid (fun W => color_any x W hx.1 hx.2.1)
      obtain ⟨k, hk2⟩ : ∃ k, P.kind x = k := ⟨_, rfl⟩
      obtain ⟨co, hc2⟩ : ∃ k, P.color x = k := ⟨_, rfl⟩
      obtain ⟨ok, hok⟩ : ∃ ok, (a && (b && (P.color x == 0 && decide (P.kind x ≤ 5)))) = ok := ⟨_, rfl⟩
      refine ⟨n, k, ok, by rw [← hok, ← hk2]; exact hD, fun w => ?_⟩
      rw [hk2] at HK hok
      rw [hc2] at HC hok
      have w1 : IntKind.i8.wrap n = n := by unfold IntKind.wrap; simp only [IntKind.bits, IntKind.signed]; simp; omega
      have e1 : (⟨#[p, 64, r, t]⟩ : ByteArray).extract 0 1 = ⟨#[p]⟩ := N.ext01 p 64 r t []
      have e2 : (⟨#[p, 64, r, t]⟩ : ByteArray).extract 2 4 = ⟨#[r, t]⟩ := N.ext24 p 64 r t []
      have e3 : ∀ h, (⟨#[p, 64, r, t]⟩ : ByteArray)[1]'h = 64 := fun _ => rfl
      obtain ⟨c0, hc0⟩ : ∃ c0, (co == 0) = c0 := ⟨_, rfl⟩
      obtain ⟨k5, hk5⟩ : ∃ k5, decide (k ≤ 5) = k5 := ⟨_, rfl⟩
      rw [hc0, hk5] at hok
      have HE := Lib.hid hok
      clear hp hy hx hn hD hk hk2 hc2 hok
      have hb0 : Below w.heap.size w (w.alloc (.cells #[.int .i8 0, .int .i8 0, .int .u8 0, .int .u8 0, .bool false] 33)) := (Below.refl _ _).alloc (Nat.le_refl _) _
      have HR := Lib.hid (And.intro (RowAt.new w #[.int .i8 0, .int .i8 0, .int .u8 0, .int .u8 0, .bool false] 33) hb0)
      clear hb0
      go_enter Try.func10, Try.ntmps10
      go_upto_region 6 with (first
        | (go_at_call 20; (with_reducible refine (HX.out _).mono ?_); rintro e wa ⟨rfl, hba⟩; have HA := Lib.hid (And.intro (HR.out.1.below hba) (below_next HR.out.2 hba)); clear hba)
        | (go_at_call 21; (with_reducible refine (HY.out _).mono ?_); rintro e wb ⟨rfl, hbb⟩; have HB := Lib.hid (And.intro (HA.out.1.below hbb) (below_next HA.out.2 hbb)); clear hbb)
        | (go_at_call 22; (with_reducible refine (HK.out _).mono ?_); rintro e wc ⟨rfl, rfl⟩)
        | ((with_reducible refine wp_store_row' rfl 33 _ _ rfl ?_); refine ⟨wb.heap.size, 33, movC n n 0 k false, rfl, rfl, ⟨_, heap_alloc_new _ _, (by kernel_rfl)⟩, Try.info_mvB _ _ _ _ _, Try.one_mvB _ _ _ _ _, ?_⟩; intro W3 hP hq; have HW := Lib.hid (And.intro hq (And.intro (hP.row (HB.out.1.alloc _) (Nat.ne_of_lt HB.out.1.lt)) (hP.below (HB.out.2.alloc HB.out.2.size _) HB.out.2.size))); clear hP hq))
      have hlt : w.heap.size < wb.heap.size := HB.out.1.lt
      clear HA HR HX HY HK
      cases a
      · refine wp_region_held (S := fun w' => RowAt w' wb.heap.size 33 (movC n n 0 k false) ∧ (∃ old, w'.heap[w.heap.size]? = some (.cells old 33 (0, 0)) ∧ old.size = 5) ∧ Below w.heap.size w w') (by kernel_rfl) ?_
        have hSd : RowAt W3.drew wb.heap.size 33 (movC n n 0 k false) ∧ (∃ old, W3.drew.heap[w.heap.size]? = some (.cells old 33 (0, 0)) ∧ old.size = 5) ∧ Below w.heap.size w W3.drew := ⟨⟨HW.out.1.heap⟩, ⟨_, HW.out.2.1.heap, rfl⟩, M.below_drew HW.out.2.2 1⟩
        refine takeD 0 (some 37) (.agg (movC n n 0 k false)) (by kernel_rfl) (by kernel_rfl) (by kernel_rfl) (by kernel_rfl) (by kernel_rfl) (fun _ _ _ h => h) (yieldsIf_load_mid (by kernel_rfl) 33 (.tmp 8) (by kernel_rfl) (wb.heap.size) 0 (by kernel_rfl) ([.int .i8 n, .int .i8 n, .int .u8 0, .int .u8 k, .bool false]) _ (fun _ h => mv_range h.1) Try.underlying33 rfl (Try.info_mvL _ _ _ _ _)) hSd ?_
        simp only [Act.put, List.setIfInBounds_toArray, List.set_cons_succ, List.set_cons_zero]
        refine takeD 1 (some 38) (.bool false) (by kernel_rfl) (by kernel_rfl) (by kernel_rfl) (by kernel_rfl) (by kernel_rfl) (fun _ _ _ h => h) (yi_pure (v0 := .bool false) (by kernel_rfl) (fun _ => by kernel_rfl) rfl) hSd ?_
        simp only [Act.put, List.setIfInBounds_toArray, List.set_cons_succ, List.set_cons_zero]
        refine takeD 2 (some 39) (.bool false) (by kernel_rfl) (by kernel_rfl) (by kernel_rfl) (by kernel_rfl) (by kernel_rfl) (fun _ _ _ h => h) (yi_pure (v0 := .bool false) (by kernel_rfl) (fun _ => by kernel_rfl) rfl) hSd ?_
        simp only [Act.put, List.setIfInBounds_toArray, List.set_cons_succ, List.set_cons_zero]
        refine takeD 3 (some 40) (undef) (by kernel_rfl) (by kernel_rfl) (by kernel_rfl) (by kernel_rfl) (by kernel_rfl) (fun _ _ _ h => h) (yi_none (by kernel_rfl)) hSd ?_
        simp only [Act.put, List.setIfInBounds_toArray, List.set_cons_succ, List.set_cons_zero]
        refine takeD 4 (some 41) (.bool false) (by kernel_rfl) (by kernel_rfl) (by kernel_rfl) (by kernel_rfl) (by kernel_rfl) (fun _ _ _ h => h) (yi_pure (v0 := .bool false) (by kernel_rfl) (fun _ => by kernel_rfl) rfl) hSd ?_
        simp only [Act.put, List.setIfInBounds_toArray, List.set_cons_succ, List.set_cons_zero]
        refine takeD 5 (some 42) (.bool false) (by kernel_rfl) (by kernel_rfl) (by kernel_rfl) (by kernel_rfl) (by kernel_rfl) (fun _ _ _ h => h) (yi_pure (v0 := .bool false) (by kernel_rfl) (fun _ => by kernel_rfl) rfl) hSd ?_
        simp only [Act.put, List.setIfInBounds_toArray, List.set_cons_succ, List.set_cons_zero]
        refine takeD 6 (some 43) (undef) (by kernel_rfl) (by kernel_rfl) (by kernel_rfl) (by kernel_rfl) (by kernel_rfl) (fun _ _ _ h => h) (yi_none (by kernel_rfl)) hSd ?_
        simp only [Act.put, List.setIfInBounds_toArray, List.set_cons_succ, List.set_cons_zero]
        refine takeD 7 (some 44) (undef) (by kernel_rfl) (by kernel_rfl) (by kernel_rfl) (by kernel_rfl) (by kernel_rfl) (fun _ _ _ h => h) (yi_none (by kernel_rfl)) hSd ?_
        simp only [Act.put, List.setIfInBounds_toArray, List.set_cons_succ, List.set_cons_zero]
        refine takeD 8 (some 45) (undef) (by kernel_rfl) (by kernel_rfl) (by kernel_rfl) (by kernel_rfl) (by kernel_rfl) (fun _ _ _ h => h) (yi_none (by kernel_rfl)) hSd ?_
        simp only [Act.put, List.setIfInBounds_toArray, List.set_cons_succ, List.set_cons_zero]
        refine takeD 9 (some 46) (.bool false) (by kernel_rfl) (by kernel_rfl) (by kernel_rfl) (by kernel_rfl) (by kernel_rfl) (fun _ _ _ h => h) (yi_pure (v0 := .bool false) (by kernel_rfl) (fun _ => by kernel_rfl) rfl) hSd ?_
        simp only [Act.put, List.setIfInBounds_toArray, List.set_cons_succ, List.set_cons_zero]
        refine takeD 10 (some 47) (.bool false) (by kernel_rfl) (by kernel_rfl) (by kernel_rfl) (by kernel_rfl) (by kernel_rfl) (fun _ _ _ h => h) (yi_pure (v0 := .bool false) (by kernel_rfl) (fun _ => by kernel_rfl) rfl) hSd ?_
        simp only [Act.put, List.setIfInBounds_toArray, List.set_cons_succ, List.set_cons_zero]
        refine takeD 11 (some 48) (undef) (by kernel_rfl) (by kernel_rfl) (by kernel_rfl) (by kernel_rfl) (by kernel_rfl) (fun _ _ _ h => h) (yi_none (by kernel_rfl)) hSd ?_
        simp only [Act.put, List.setIfInBounds_toArray, List.set_cons_succ, List.set_cons_zero]
        refine takeD 12 (some 49) (undef) (by kernel_rfl) (by kernel_rfl) (by kernel_rfl) (by kernel_rfl) (by kernel_rfl) (fun _ _ _ h => h) (yi_none (by kernel_rfl)) hSd ?_
        simp only [Act.put, List.setIfInBounds_toArray, List.set_cons_succ, List.set_cons_zero]
        refine takeD 13 (some 50) (undef) (by kernel_rfl) (by kernel_rfl) (by kernel_rfl) (by kernel_rfl) (by kernel_rfl) (fun _ _ _ h => h) (yi_none (by kernel_rfl)) hSd ?_
        simp only [Act.put, List.setIfInBounds_toArray, List.set_cons_succ, List.set_cons_zero]
        refine takeD 14 (some 51) (.bool false) (by kernel_rfl) (by kernel_rfl) (by kernel_rfl) (by kernel_rfl) (by kernel_rfl) (fun _ _ _ h => h) (yi_pure (v0 := .bool false) (by kernel_rfl) (fun _ => by kernel_rfl) rfl) hSd ?_
        simp only [Act.put, List.setIfInBounds_toArray, List.set_cons_succ, List.set_cons_zero]
        refine takeOne 15 (by kernel_rfl) (by kernel_rfl) (by kernel_rfl) ?_
        obtain ⟨old1, ho1, hz1⟩ := hSd.2.1
        refine wp_store_row 33 (.tmp 2) (.tmp 37) (by kernel_rfl) w.heap.size (movC n n 0 k false) (by kernel_rfl) (by kernel_rfl) _ old1 ho1 (Try.info_mvB _ _ _ _ _) hz1 (Try.one_mvB _ _ _ _ _) ?_
        have hV1 := put_setRow W3.drew w.heap.size (movC n n 0 k false)
        have hR1 : RowAt (W3.drew.setRow w.heap.size (movC n n 0 k false)) w.heap.size 33 (movC n n 0 k false) := ⟨setRow_heap _ _ _ _ _ _ ho1⟩
        have hS1 : RowAt (W3.drew.setRow w.heap.size (movC n n 0 k false)) wb.heap.size 33 (movC n n 0 k false) ∧ (∃ old, (W3.drew.setRow w.heap.size (movC n n 0 k false)).heap[w.heap.size]? = some (.cells old 33 (0, 0)) ∧ old.size = 5) ∧ Below w.heap.size w (W3.drew.setRow w.heap.size (movC n n 0 k false)) := ⟨hV1.row hSd.1 (by omega), ⟨_, hR1.heap, rfl⟩, hV1.below hSd.2.2 (Nat.le_refl _)⟩
        refine ⟨hS1, ?_⟩
        refine takeD 16 (some 3) (.bool false) (by kernel_rfl) (by kernel_rfl) (by kernel_rfl) (by kernel_rfl) (by kernel_rfl) (fun _ _ _ h => h) (yi_pure (v0 := .bool false) (by kernel_rfl) (fun _ => by kernel_rfl) rfl) hS1 ?_
        simp only [Act.put, List.setIfInBounds_toArray]
        refine wpAnyH_done (by kernel_rfl) ?_ _
        go_wp2_with fail
        exact bodyPost_ret (results_mv_tmp Try.results10 _ _ w.heap.size 33 _ (0, 0) _ rfl hR1.heap Try.underlying33 rfl (Try.info_mvB _ _ _ _ _)) rfl ⟨by rw [← HE.out]; rfl, hS1.2.2⟩
      cases b
      · refine wp_region_held (S := fun w' => RowAt w' wb.heap.size 33 (movC n n 0 k false) ∧ (∃ old, w'.heap[w.heap.size]? = some (.cells old 33 (0, 0)) ∧ old.size = 5) ∧ Below w.heap.size w w') (by kernel_rfl) ?_
        have hSd : RowAt W3.drew wb.heap.size 33 (movC n n 0 k false) ∧ (∃ old, W3.drew.heap[w.heap.size]? = some (.cells old 33 (0, 0)) ∧ old.size = 5) ∧ Below w.heap.size w W3.drew := ⟨⟨HW.out.1.heap⟩, ⟨_, HW.out.2.1.heap, rfl⟩, M.below_drew HW.out.2.2 1⟩
        refine takeD 0 (some 37) (.agg (movC n n 0 k false)) (by kernel_rfl) (by kernel_rfl) (by kernel_rfl) (by kernel_rfl) (by kernel_rfl) (fun _ _ _ h => h) (yieldsIf_load_mid (by kernel_rfl) 33 (.tmp 8) (by kernel_rfl) (wb.heap.size) 0 (by kernel_rfl) ([.int .i8 n, .int .i8 n, .int .u8 0, .int .u8 k, .bool false]) _ (fun _ h => mv_range h.1) Try.underlying33 rfl (Try.info_mvL _ _ _ _ _)) hSd ?_
        simp only [Act.put, List.setIfInBounds_toArray, List.set_cons_succ, List.set_cons_zero]
        refine takeD 1 (some 38) (.bool true) (by kernel_rfl) (by kernel_rfl) (by kernel_rfl) (by kernel_rfl) (by kernel_rfl) (fun _ _ _ h => h) (yi_pure (v0 := .bool true) (by kernel_rfl) (fun _ => by kernel_rfl) rfl) hSd ?_
        simp only [Act.put, List.setIfInBounds_toArray, List.set_cons_succ, List.set_cons_zero]
        refine takeD 2 (some 39) (.bool true) (by kernel_rfl) (by kernel_rfl) (by kernel_rfl) (by kernel_rfl) (by kernel_rfl) (fun _ _ _ h => h) (yi_pure (v0 := .bool true) (by kernel_rfl) (fun _ => by kernel_rfl) rfl) hSd ?_
        simp only [Act.put, List.setIfInBounds_toArray, List.set_cons_succ, List.set_cons_zero]
        refine takeD 3 (some 40) (.bool false) (by kernel_rfl) (by kernel_rfl) (by kernel_rfl) (by kernel_rfl) (by kernel_rfl) (fun _ _ _ h => h) (yi_pure (v0 := .bool false) (by kernel_rfl) (fun _ => by kernel_rfl) rfl) hSd ?_
        simp only [Act.put, List.setIfInBounds_toArray, List.set_cons_succ, List.set_cons_zero]
        refine takeD 4 (some 41) (.bool false) (by kernel_rfl) (by kernel_rfl) (by kernel_rfl) (by kernel_rfl) (by kernel_rfl) (fun _ _ _ h => h) (yi_pure (v0 := .bool false) (by kernel_rfl) (fun _ => by kernel_rfl) rfl) hSd ?_
        simp only [Act.put, List.setIfInBounds_toArray, List.set_cons_succ, List.set_cons_zero]
        refine takeD 5 (some 42) (.bool false) (by kernel_rfl) (by kernel_rfl) (by kernel_rfl) (by kernel_rfl) (by kernel_rfl) (fun _ _ _ h => h) (yi_pure (v0 := .bool false) (by kernel_rfl) (fun _ => by kernel_rfl) rfl) hSd ?_
        simp only [Act.put, List.setIfInBounds_toArray, List.set_cons_succ, List.set_cons_zero]
        refine takeD 6 (some 43) (undef) (by kernel_rfl) (by kernel_rfl) (by kernel_rfl) (by kernel_rfl) (by kernel_rfl) (fun _ _ _ h => h) (yi_none (by kernel_rfl)) hSd ?_
        simp only [Act.put, List.setIfInBounds_toArray, List.set_cons_succ, List.set_cons_zero]
        refine takeD 7 (some 44) (undef) (by kernel_rfl) (by kernel_rfl) (by kernel_rfl) (by kernel_rfl) (by kernel_rfl) (fun _ _ _ h => h) (yi_none (by kernel_rfl)) hSd ?_
        simp only [Act.put, List.setIfInBounds_toArray, List.set_cons_succ, List.set_cons_zero]
        refine takeD 8 (some 45) (undef) (by kernel_rfl) (by kernel_rfl) (by kernel_rfl) (by kernel_rfl) (by kernel_rfl) (fun _ _ _ h => h) (yi_none (by kernel_rfl)) hSd ?_
        simp only [Act.put, List.setIfInBounds_toArray, List.set_cons_succ, List.set_cons_zero]
        refine takeD 9 (some 46) (.bool false) (by kernel_rfl) (by kernel_rfl) (by kernel_rfl) (by kernel_rfl) (by kernel_rfl) (fun _ _ _ h => h) (yi_pure (v0 := .bool false) (by kernel_rfl) (fun _ => by kernel_rfl) rfl) hSd ?_
        simp only [Act.put, List.setIfInBounds_toArray, List.set_cons_succ, List.set_cons_zero]
        refine takeD 10 (some 47) (.bool false) (by kernel_rfl) (by kernel_rfl) (by kernel_rfl) (by kernel_rfl) (by kernel_rfl) (fun _ _ _ h => h) (yi_pure (v0 := .bool false) (by kernel_rfl) (fun _ => by kernel_rfl) rfl) hSd ?_
        simp only [Act.put, List.setIfInBounds_toArray, List.set_cons_succ, List.set_cons_zero]
        refine takeD 11 (some 48) (undef) (by kernel_rfl) (by kernel_rfl) (by kernel_rfl) (by kernel_rfl) (by kernel_rfl) (fun _ _ _ h => h) (yi_none (by kernel_rfl)) hSd ?_
        simp only [Act.put, List.setIfInBounds_toArray, List.set_cons_succ, List.set_cons_zero]
        refine takeD 12 (some 49) (undef) (by kernel_rfl) (by kernel_rfl) (by kernel_rfl) (by kernel_rfl) (by kernel_rfl) (fun _ _ _ h => h) (yi_none (by kernel_rfl)) hSd ?_
        simp only [Act.put, List.setIfInBounds_toArray, List.set_cons_succ, List.set_cons_zero]
        refine takeD 13 (some 50) (undef) (by kernel_rfl) (by kernel_rfl) (by kernel_rfl) (by kernel_rfl) (by kernel_rfl) (fun _ _ _ h => h) (yi_none (by kernel_rfl)) hSd ?_
        simp only [Act.put, List.setIfInBounds_toArray, List.set_cons_succ, List.set_cons_zero]
        refine takeD 14 (some 51) (.bool false) (by kernel_rfl) (by kernel_rfl) (by kernel_rfl) (by kernel_rfl) (by kernel_rfl) (fun _ _ _ h => h) (yi_pure (v0 := .bool false) (by kernel_rfl) (fun _ => by kernel_rfl) rfl) hSd ?_
        simp only [Act.put, List.setIfInBounds_toArray, List.set_cons_succ, List.set_cons_zero]
        refine takeOne 15 (by kernel_rfl) (by kernel_rfl) (by kernel_rfl) ?_
        obtain ⟨old1, ho1, hz1⟩ := hSd.2.1
        refine wp_store_row 33 (.tmp 2) (.tmp 37) (by kernel_rfl) w.heap.size (movC n n 0 k false) (by kernel_rfl) (by kernel_rfl) _ old1 ho1 (Try.info_mvB _ _ _ _ _) hz1 (Try.one_mvB _ _ _ _ _) ?_
        have hV1 := put_setRow W3.drew w.heap.size (movC n n 0 k false)
        have hR1 : RowAt (W3.drew.setRow w.heap.size (movC n n 0 k false)) w.heap.size 33 (movC n n 0 k false) := ⟨setRow_heap _ _ _ _ _ _ ho1⟩
        have hS1 : RowAt (W3.drew.setRow w.heap.size (movC n n 0 k false)) wb.heap.size 33 (movC n n 0 k false) ∧ (∃ old, (W3.drew.setRow w.heap.size (movC n n 0 k false)).heap[w.heap.size]? = some (.cells old 33 (0, 0)) ∧ old.size = 5) ∧ Below w.heap.size w (W3.drew.setRow w.heap.size (movC n n 0 k false)) := ⟨hV1.row hSd.1 (by omega), ⟨_, hR1.heap, rfl⟩, hV1.below hSd.2.2 (Nat.le_refl _)⟩
        refine ⟨hS1, ?_⟩
        refine takeD 16 (some 3) (.bool false) (by kernel_rfl) (by kernel_rfl) (by kernel_rfl) (by kernel_rfl) (by kernel_rfl) (fun _ _ _ h => h) (yi_pure (v0 := .bool false) (by kernel_rfl) (fun _ => by kernel_rfl) rfl) hS1 ?_
        simp only [Act.put, List.setIfInBounds_toArray]
        refine wpAnyH_done (by kernel_rfl) ?_ _
        go_wp2_with fail
        exact bodyPost_ret (results_mv_tmp Try.results10 _ _ w.heap.size 33 _ (0, 0) _ rfl hR1.heap Try.underlying33 rfl (Try.info_mvB _ _ _ _ _)) rfl ⟨by rw [← HE.out]; rfl, hS1.2.2⟩
      cases c0
      · refine wp_region_held (S := fun w' => RowAt w' wb.heap.size 33 (movC n n 0 k false) ∧ (∃ old, w'.heap[w.heap.size]? = some (.cells old 33 (0, 0)) ∧ old.size = 5) ∧ Below w.heap.size w w') (by kernel_rfl) ?_
        have hSd : RowAt W3.drew wb.heap.size 33 (movC n n 0 k false) ∧ (∃ old, W3.drew.heap[w.heap.size]? = some (.cells old 33 (0, 0)) ∧ old.size = 5) ∧ Below w.heap.size w W3.drew := ⟨⟨HW.out.1.heap⟩, ⟨_, HW.out.2.1.heap, rfl⟩, M.below_drew HW.out.2.2 1⟩
        refine takeD 0 (some 37) (.agg (movC n n 0 k false)) (by kernel_rfl) (by kernel_rfl) (by kernel_rfl) (by kernel_rfl) (by kernel_rfl) (fun _ _ _ h => h) (yieldsIf_load_mid (by kernel_rfl) 33 (.tmp 8) (by kernel_rfl) (wb.heap.size) 0 (by kernel_rfl) ([.int .i8 n, .int .i8 n, .int .u8 0, .int .u8 k, .bool false]) _ (fun _ h => mv_range h.1) Try.underlying33 rfl (Try.info_mvL _ _ _ _ _)) hSd ?_
        simp only [Act.put, List.setIfInBounds_toArray, List.set_cons_succ, List.set_cons_zero]
        refine takeD 1 (some 38) (.bool true) (by kernel_rfl) (by kernel_rfl) (by kernel_rfl) (by kernel_rfl) (by kernel_rfl) (fun _ _ _ h => h) (yi_pure (v0 := .bool true) (by kernel_rfl) (fun _ => by kernel_rfl) rfl) hSd ?_
        simp only [Act.put, List.setIfInBounds_toArray, List.set_cons_succ, List.set_cons_zero]
        refine takeD 2 (some 39) (.bool true) (by kernel_rfl) (by kernel_rfl) (by kernel_rfl) (by kernel_rfl) (by kernel_rfl) (fun _ _ _ h => h) (yi_pure (v0 := .bool true) (by kernel_rfl) (fun _ => by kernel_rfl) rfl) hSd ?_
        simp only [Act.put, List.setIfInBounds_toArray, List.set_cons_succ, List.set_cons_zero]
        refine takeD 3 (some 40) (.bool true) (by kernel_rfl) (by kernel_rfl) (by kernel_rfl) (by kernel_rfl) (by kernel_rfl) (fun _ _ _ h => h) (yi_pure (v0 := .bool true) (by kernel_rfl) (fun _ => by kernel_rfl) rfl) hSd ?_
        simp only [Act.put, List.setIfInBounds_toArray, List.set_cons_succ, List.set_cons_zero]
        refine takeD 4 (some 41) (.bool true) (by kernel_rfl) (by kernel_rfl) (by kernel_rfl) (by kernel_rfl) (by kernel_rfl) (fun _ _ _ h => h) (yi_pure (v0 := .bool true) (by kernel_rfl) (fun _ => by kernel_rfl) rfl) hSd ?_
        simp only [Act.put, List.setIfInBounds_toArray, List.set_cons_succ, List.set_cons_zero]
        refine takeD 5 (some 42) (.bool true) (by kernel_rfl) (by kernel_rfl) (by kernel_rfl) (by kernel_rfl) (by kernel_rfl) (fun _ _ _ h => h) (yi_pure (v0 := .bool true) (by kernel_rfl) (fun _ => by kernel_rfl) rfl) hSd ?_
        simp only [Act.put, List.setIfInBounds_toArray, List.set_cons_succ, List.set_cons_zero]
        refine takeD 6 (some 43) (.int .u8 x) (by kernel_rfl) (by kernel_rfl) (by kernel_rfl) (by kernel_rfl) (by kernel_rfl) (fun _ _ _ h => h) (yi_pure (v0 := .int .u8 x) (by kernel_rfl) (fun _ => by kernel_rfl) rfl) hSd ?_
        simp only [Act.put, List.setIfInBounds_toArray, List.set_cons_succ, List.set_cons_zero]
        refine takeCall 7 (some 44) 23 (#[.int .u8 x]) (.int .u8 co) (fun w9 => W3.drew = w9) (by kernel_rfl) (by kernel_rfl) (by kernel_rfl) (by kernel_rfl) (by kernel_rfl) (HC.out _) (fun u3 hRu3 => ?_)
        simp only [Act.put, List.setIfInBounds_toArray, List.set_cons_succ, List.set_cons_zero]
        subst hRu3
        refine ⟨hSd, ?_⟩
        refine takeD 8 (some 45) (.bool false) (by kernel_rfl) (by kernel_rfl) (by kernel_rfl) (by kernel_rfl) (by kernel_rfl) (fun _ _ _ h => h) (yi_pure (v0 := .bool (co == 0)) (by kernel_rfl) (fun _ => by kernel_rfl) (by rw [hc0])) hSd ?_
        simp only [Act.put, List.setIfInBounds_toArray, List.set_cons_succ, List.set_cons_zero]
        refine takeD 9 (some 46) (.bool false) (by kernel_rfl) (by kernel_rfl) (by kernel_rfl) (by kernel_rfl) (by kernel_rfl) (fun _ _ _ h => h) (yi_pure (v0 := .bool false) (by kernel_rfl) (fun _ => by kernel_rfl) rfl) hSd ?_
        simp only [Act.put, List.setIfInBounds_toArray, List.set_cons_succ, List.set_cons_zero]
        refine takeD 10 (some 47) (.bool false) (by kernel_rfl) (by kernel_rfl) (by kernel_rfl) (by kernel_rfl) (by kernel_rfl) (fun _ _ _ h => h) (yi_pure (v0 := .bool false) (by kernel_rfl) (fun _ => by kernel_rfl) rfl) hSd ?_
        simp only [Act.put, List.setIfInBounds_toArray, List.set_cons_succ, List.set_cons_zero]
        refine takeD 11 (some 48) (undef) (by kernel_rfl) (by kernel_rfl) (by kernel_rfl) (by kernel_rfl) (by kernel_rfl) (fun _ _ _ h => h) (yi_none (by kernel_rfl)) hSd ?_
        simp only [Act.put, List.setIfInBounds_toArray, List.set_cons_succ, List.set_cons_zero]
        refine takeD 12 (some 49) (undef) (by kernel_rfl) (by kernel_rfl) (by kernel_rfl) (by kernel_rfl) (by kernel_rfl) (fun _ _ _ h => h) (yi_none (by kernel_rfl)) hSd ?_
        simp only [Act.put, List.setIfInBounds_toArray, List.set_cons_succ, List.set_cons_zero]
        refine takeD 13 (some 50) (undef) (by kernel_rfl) (by kernel_rfl) (by kernel_rfl) (by kernel_rfl) (by kernel_rfl) (fun _ _ _ h => h) (yi_none (by kernel_rfl)) hSd ?_
        simp only [Act.put, List.setIfInBounds_toArray, List.set_cons_succ, List.set_cons_zero]
        refine takeD 14 (some 51) (.bool false) (by kernel_rfl) (by kernel_rfl) (by kernel_rfl) (by kernel_rfl) (by kernel_rfl) (fun _ _ _ h => h) (yi_pure (v0 := .bool false) (by kernel_rfl) (fun _ => by kernel_rfl) rfl) hSd ?_
        simp only [Act.put, List.setIfInBounds_toArray, List.set_cons_succ, List.set_cons_zero]
        refine takeOne 15 (by kernel_rfl) (by kernel_rfl) (by kernel_rfl) ?_
        obtain ⟨old1, ho1, hz1⟩ := hSd.2.1
        refine wp_store_row 33 (.tmp 2) (.tmp 37) (by kernel_rfl) w.heap.size (movC n n 0 k false) (by kernel_rfl) (by kernel_rfl) _ old1 ho1 (Try.info_mvB _ _ _ _ _) hz1 (Try.one_mvB _ _ _ _ _) ?_
        have hV1 := put_setRow W3.drew w.heap.size (movC n n 0 k false)
        have hR1 : RowAt (W3.drew.setRow w.heap.size (movC n n 0 k false)) w.heap.size 33 (movC n n 0 k false) := ⟨setRow_heap _ _ _ _ _ _ ho1⟩
        have hS1 : RowAt (W3.drew.setRow w.heap.size (movC n n 0 k false)) wb.heap.size 33 (movC n n 0 k false) ∧ (∃ old, (W3.drew.setRow w.heap.size (movC n n 0 k false)).heap[w.heap.size]? = some (.cells old 33 (0, 0)) ∧ old.size = 5) ∧ Below w.heap.size w (W3.drew.setRow w.heap.size (movC n n 0 k false)) := ⟨hV1.row hSd.1 (by omega), ⟨_, hR1.heap, rfl⟩, hV1.below hSd.2.2 (Nat.le_refl _)⟩
        refine ⟨hS1, ?_⟩
        refine takeD 16 (some 3) (.bool false) (by kernel_rfl) (by kernel_rfl) (by kernel_rfl) (by kernel_rfl) (by kernel_rfl) (fun _ _ _ h => h) (yi_pure (v0 := .bool false) (by kernel_rfl) (fun _ => by kernel_rfl) rfl) hS1 ?_
        simp only [Act.put, List.setIfInBounds_toArray]
        refine wpAnyH_done (by kernel_rfl) ?_ _
        go_wp2_with fail
        exact bodyPost_ret (results_mv_tmp Try.results10 _ _ w.heap.size 33 _ (0, 0) _ rfl hR1.heap Try.underlying33 rfl (Try.info_mvB _ _ _ _ _)) rfl ⟨by rw [← HE.out]; rfl, hS1.2.2⟩
      · refine wp_region_held (S := fun w' => RowAt w' wb.heap.size 33 (movC n n 0 k false) ∧ (∃ old, w'.heap[w.heap.size]? = some (.cells old 33 (0, 0)) ∧ old.size = 5) ∧ Below w.heap.size w w') (by kernel_rfl) ?_
        have hSd : RowAt W3.drew wb.heap.size 33 (movC n n 0 k false) ∧ (∃ old, W3.drew.heap[w.heap.size]? = some (.cells old 33 (0, 0)) ∧ old.size = 5) ∧ Below w.heap.size w W3.drew := ⟨⟨HW.out.1.heap⟩, ⟨_, HW.out.2.1.heap, rfl⟩, M.below_drew HW.out.2.2 1⟩
        refine takeD 0 (some 37) (.agg (movC n n 0 k false)) (by kernel_rfl) (by kernel_rfl) (by kernel_rfl) (by kernel_rfl) (by kernel_rfl) (fun _ _ _ h => h) (yieldsIf_load_mid (by kernel_rfl) 33 (.tmp 8) (by kernel_rfl) (wb.heap.size) 0 (by kernel_rfl) ([.int .i8 n, .int .i8 n, .int .u8 0, .int .u8 k, .bool false]) _ (fun _ h => mv_range h.1) Try.underlying33 rfl (Try.info_mvL _ _ _ _ _)) hSd ?_
        simp only [Act.put, List.setIfInBounds_toArray, List.set_cons_succ, List.set_cons_zero]
        refine takeD 1 (some 38) (.bool true) (by kernel_rfl) (by kernel_rfl) (by kernel_rfl) (by kernel_rfl) (by kernel_rfl) (fun _ _ _ h => h) (yi_pure (v0 := .bool true) (by kernel_rfl) (fun _ => by kernel_rfl) rfl) hSd ?_
        simp only [Act.put, List.setIfInBounds_toArray, List.set_cons_succ, List.set_cons_zero]
        refine takeD 2 (some 39) (.bool true) (by kernel_rfl) (by kernel_rfl) (by kernel_rfl) (by kernel_rfl) (by kernel_rfl) (fun _ _ _ h => h) (yi_pure (v0 := .bool true) (by kernel_rfl) (fun _ => by kernel_rfl) rfl) hSd ?_
        simp only [Act.put, List.setIfInBounds_toArray, List.set_cons_succ, List.set_cons_zero]
        refine takeD 3 (some 40) (.bool true) (by kernel_rfl) (by kernel_rfl) (by kernel_rfl) (by kernel_rfl) (by kernel_rfl) (fun _ _ _ h => h) (yi_pure (v0 := .bool true) (by kernel_rfl) (fun _ => by kernel_rfl) rfl) hSd ?_
        simp only [Act.put, List.setIfInBounds_toArray, List.set_cons_succ, List.set_cons_zero]
        refine takeD 4 (some 41) (.bool true) (by kernel_rfl) (by kernel_rfl) (by kernel_rfl) (by kernel_rfl) (by kernel_rfl) (fun _ _ _ h => h) (yi_pure (v0 := .bool true) (by kernel_rfl) (fun _ => by kernel_rfl) rfl) hSd ?_
        simp only [Act.put, List.setIfInBounds_toArray, List.set_cons_succ, List.set_cons_zero]
        refine takeD 5 (some 42) (.bool true) (by kernel_rfl) (by kernel_rfl) (by kernel_rfl) (by kernel_rfl) (by kernel_rfl) (fun _ _ _ h => h) (yi_pure (v0 := .bool true) (by kernel_rfl) (fun _ => by kernel_rfl) rfl) hSd ?_
        simp only [Act.put, List.setIfInBounds_toArray, List.set_cons_succ, List.set_cons_zero]
        refine takeD 6 (some 43) (.int .u8 x) (by kernel_rfl) (by kernel_rfl) (by kernel_rfl) (by kernel_rfl) (by kernel_rfl) (fun _ _ _ h => h) (yi_pure (v0 := .int .u8 x) (by kernel_rfl) (fun _ => by kernel_rfl) rfl) hSd ?_
        simp only [Act.put, List.setIfInBounds_toArray, List.set_cons_succ, List.set_cons_zero]
        refine takeCall 7 (some 44) 23 (#[.int .u8 x]) (.int .u8 co) (fun w9 => W3.drew = w9) (by kernel_rfl) (by kernel_rfl) (by kernel_rfl) (by kernel_rfl) (by kernel_rfl) (HC.out _) (fun u3 hRu3 => ?_)
        simp only [Act.put, List.setIfInBounds_toArray, List.set_cons_succ, List.set_cons_zero]
        subst hRu3
        refine ⟨hSd, ?_⟩
        refine takeD 8 (some 45) (.bool true) (by kernel_rfl) (by kernel_rfl) (by kernel_rfl) (by kernel_rfl) (by kernel_rfl) (fun _ _ _ h => h) (yi_pure (v0 := .bool (co == 0)) (by kernel_rfl) (fun _ => by kernel_rfl) (by rw [hc0])) hSd ?_
        simp only [Act.put, List.setIfInBounds_toArray, List.set_cons_succ, List.set_cons_zero]
        refine takeD 9 (some 46) (.bool true) (by kernel_rfl) (by kernel_rfl) (by kernel_rfl) (by kernel_rfl) (by kernel_rfl) (fun _ _ _ h => h) (yi_pure (v0 := .bool true) (by kernel_rfl) (fun _ => by kernel_rfl) rfl) hSd ?_
        simp only [Act.put, List.setIfInBounds_toArray, List.set_cons_succ, List.set_cons_zero]
        refine takeD 10 (some 47) (.bool true) (by kernel_rfl) (by kernel_rfl) (by kernel_rfl) (by kernel_rfl) (by kernel_rfl) (fun _ _ _ h => h) (yi_pure (v0 := .bool true) (by kernel_rfl) (fun _ => by kernel_rfl) rfl) hSd ?_
        simp only [Act.put, List.setIfInBounds_toArray, List.set_cons_succ, List.set_cons_zero]
        refine takeD 11 (some 48) (.pointer (some ⟨wb.heap.size, 3, none⟩)) (by kernel_rfl) (by kernel_rfl) (by kernel_rfl) (by kernel_rfl) (by kernel_rfl) (fun _ _ _ h => h) (yi_pure (v0 := .pointer (some ⟨wb.heap.size, 3, none⟩)) (by kernel_rfl) (fun _ => by kernel_rfl) rfl) hSd ?_
        simp only [Act.put, List.setIfInBounds_toArray, List.set_cons_succ, List.set_cons_zero]
        refine takeD 12 (some 49) (.int .u8 k) (by kernel_rfl) (by kernel_rfl) (by kernel_rfl) (by kernel_rfl) (by kernel_rfl) (fun _ _ _ h => h) (yi_load (by kernel_rfl) 5 (.tmp 48) (by kernel_rfl) ⟨wb.heap.size, 3, none⟩ (by kernel_rfl) (fun w9 => load_u8 _ _ w9) (fun w9 h9 => h9.1.cell 3)) hSd ?_
        simp only [Act.put, List.setIfInBounds_toArray, List.set_cons_succ, List.set_cons_zero]
        refine takeD 13 (some 50) (.bool k5) (by kernel_rfl) (by kernel_rfl) (by kernel_rfl) (by kernel_rfl) (by kernel_rfl) (fun _ _ _ h => h) (yi_pure (v0 := .bool (decide (k ≤ 5))) (by kernel_rfl) (fun _ => by kernel_rfl) (by rw [hk5])) hSd ?_
        simp only [Act.put, List.setIfInBounds_toArray, List.set_cons_succ, List.set_cons_zero]
        refine takeD 14 (some 51) (.bool k5) (by kernel_rfl) (by kernel_rfl) (by kernel_rfl) (by kernel_rfl) (by kernel_rfl) (fun _ _ _ h => h) (yi_pure (v0 := .bool k5) (by kernel_rfl) (fun _ => by kernel_rfl) rfl) hSd ?_
        simp only [Act.put, List.setIfInBounds_toArray, List.set_cons_succ, List.set_cons_zero]
        refine takeOne 15 (by kernel_rfl) (by kernel_rfl) (by kernel_rfl) ?_
        obtain ⟨old1, ho1, hz1⟩ := hSd.2.1
        refine wp_store_row 33 (.tmp 2) (.tmp 37) (by kernel_rfl) w.heap.size (movC n n 0 k false) (by kernel_rfl) (by kernel_rfl) _ old1 ho1 (Try.info_mvB _ _ _ _ _) hz1 (Try.one_mvB _ _ _ _ _) ?_
        have hV1 := put_setRow W3.drew w.heap.size (movC n n 0 k false)
        have hR1 : RowAt (W3.drew.setRow w.heap.size (movC n n 0 k false)) w.heap.size 33 (movC n n 0 k false) := ⟨setRow_heap _ _ _ _ _ _ ho1⟩
        have hS1 : RowAt (W3.drew.setRow w.heap.size (movC n n 0 k false)) wb.heap.size 33 (movC n n 0 k false) ∧ (∃ old, (W3.drew.setRow w.heap.size (movC n n 0 k false)).heap[w.heap.size]? = some (.cells old 33 (0, 0)) ∧ old.size = 5) ∧ Below w.heap.size w (W3.drew.setRow w.heap.size (movC n n 0 k false)) := ⟨hV1.row hSd.1 (by omega), ⟨_, hR1.heap, rfl⟩, hV1.below hSd.2.2 (Nat.le_refl _)⟩
        refine ⟨hS1, ?_⟩
        refine takeD 16 (some 3) (.bool k5) (by kernel_rfl) (by kernel_rfl) (by kernel_rfl) (by kernel_rfl) (by kernel_rfl) (fun _ _ _ h => h) (yi_pure (v0 := .bool k5) (by kernel_rfl) (fun _ => by kernel_rfl) rfl) hS1 ?_
        simp only [Act.put, List.setIfInBounds_toArray]
        refine wpAnyH_done (by kernel_rfl) ?_ _
        go_wp2_with fail
        exact bodyPost_ret (results_mv_tmp Try.results10 _ _ w.heap.size 33 _ (0, 0) _ rfl hR1.heap Try.underlying33 rfl (Try.info_mvB _ _ _ _ _)) rfl ⟨by rw [← HE.out]; rfl, hS1.2.2⟩
    · refine ⟨0, 0, false, N.dropR_not (.inr ⟨p, q, r, t, hq, rfl⟩), fun w => ?_⟩
      have e3 : ∀ h, (⟨#[p, q, r, t]⟩ : ByteArray)[1]'h = q := fun _ => rfl
      have hq2 : ((q.toNat : Int) != 64) = true := by
        rw [bne_iff_ne]
        intro e
        exact hq (UInt8.toNat_inj.1 (by show q.toNat = 64; omega))
      have hb0 : Below w.heap.size w (w.alloc (.cells #[.int .i8 0, .int .i8 0, .int .u8 0, .int .u8 0, .bool false] 33)) := (Below.refl _ _).alloc (Nat.le_refl _) _
      go_enter Try.func10, Try.ntmps10
      go_wp2_with ((with_reducible refine wp_store_row' rfl 33 _ _ rfl ?_); refine ⟨w.heap.size, 33, movC 0 0 0 0 false, rfl, rfl, ⟨_, heap_alloc_new _ _, (by kernel_rfl)⟩, Try.info_mvB _ _ _ _ _, Try.one_mvB _ _ _ _ _, ?_⟩; intro W9 hP9 hq9; have HB := Lib.hid (hP9.below hb0 (Nat.le_refl _)))
      exact bodyPost_ret (results_mv_tmp Try.results10 _ _ w.heap.size 33 _ (0, 0) _ rfl hq9.heap Try.underlying33 rfl (Try.info_mvB _ _ _ _ _)) rfl ⟨rfl, HB.out⟩
  · refine ⟨0, 0, false, N.dropR_not (.inl h4), fun w => ?_⟩
    have hb0 : Below w.heap.size w (w.alloc (.cells #[.int .i8 0, .int .i8 0, .int .u8 0, .int .u8 0, .bool false] 33)) := (Below.refl _ _).alloc (Nat.le_refl _) _
    go_enter Try.func10, Try.ntmps10
    go_wp2_with ((with_reducible refine wp_store_row' rfl 33 _ _ rfl ?_); refine ⟨w.heap.size, 33, movC 0 0 0 0 false, rfl, rfl, ⟨_, heap_alloc_new _ _, (by kernel_rfl)⟩, Try.info_mvB _ _ _ _ _, Try.one_mvB _ _ _ _ _, ?_⟩; intro W9 hP9 hq9; have HB := Lib.hid (hP9.below hb0 (Nat.le_refl _)))
    exact bodyPost_ret (results_mv_tmp Try.results10 _ _ w.heap.size 33 _ (0, 0) _ rfl hq9.heap Try.underlying33 rfl (Try.info_mvB _ _ _ _ _)) rfl ⟨rfl, HB.out⟩
end Go.Proofs.Ytldpejeodhkgdaa
