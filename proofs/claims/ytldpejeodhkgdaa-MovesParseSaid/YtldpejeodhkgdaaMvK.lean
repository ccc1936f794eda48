/- The program's package moves: castlings are read. -/
import Derived.Test.YtldpejeodhkgdaaMvJ
namespace Go.Proofs.Ytldpejeodhkgdaa
open Go.RowKit Go.Sort
attribute [local go_sem] Oper.semAt_some

namespace N
/-- A castling, read. -/
def RookR (c : Nat → Int) (s : ByteArray) (f g : Int) (ok : Bool) : Prop := (ok = true ∧ ∃ a b : Nat, f = (a : Int) ∧ g = (b : Int) ∧ IsCas c a b s) ∨ (ok = false ∧ ∀ a b, ¬ IsCas c a b s)
theorem cas9_two {c : Nat → Int} {a b : Nat} {s : ByteArray} (h0 : c 0 = 1) (h : IsCas c a b s) : a < 64 ∧ b < 64 ∧ a ≠ b ∧ s = two a b := by
  obtain ⟨ha, hb, hne, h⟩ := h
  rcases h with ⟨_, _, _, rfl⟩ | ⟨h1, _⟩
  · exact ⟨ha, hb, hne, rfl⟩
  · exact absurd h0 h1
theorem rook9_no {c : Nat → Int} {s : ByteArray} {n m : Int} (h0 : c 0 = 1) (hT : TwoR s n m false) : RookR c s n m false := by
  refine .inr ⟨rfl, fun a b h => ?_⟩
  obtain ⟨ha, hb, hne, e⟩ := cas9_two h0 h
  rcases hT with ⟨h, _⟩ | ⟨_, hn⟩
  · cases h
  · exact hn a b [] ha hb hne e
theorem rook9_size {c : Nat → Int} {s : ByteArray} {n m : Int} (h0 : c 0 = 1) (h4 : s.size ≠ 4) : RookR c s n m false := by
  refine .inr ⟨rfl, fun a b h => ?_⟩
  obtain ⟨ha, hb, hne, e⟩ := cas9_two h0 h
  exact h4 (by rw [e]; rfl)
theorem empty_toList (s : ByteArray) : (s.toList == (⟨#[]⟩ : ByteArray).toList) = true ↔ s = ⟨#[]⟩ := by
  constructor
  · intro h
    have h : s.toList = (⟨#[]⟩ : ByteArray).toList := by simpa using h
    rw [Lib.toList_data, Lib.toList_data] at h
    exact ByteArray.ext (Array.toList_inj.1 h)
  · rintro rfl
    exact beq_self_eq_true _
theorem rook9_of {c : Nat → Int} {s : ByteArray} {n m : Int} (hk : known c) (h0 : c 0 = 1) (h4 : s.size = 4) (hT : TwoR s n m true) :
    ∃ a b : Nat, n = (a : Int) ∧ m = (b : Int) ∧ a < 64 ∧ b < 64 ∧ RookR c s n m (!((cas c a b).toList == (⟨#[]⟩ : ByteArray).toList)) := by
  rcases hT with ⟨_, a, b, l, ha, hb, hne, rfl, rfl, rfl⟩ | ⟨h, _⟩
  · obtain rfl : l = [] := by
      cases l with
      | nil => rfl
      | cons x l => exact absurd h4 (by show ¬ l.length + 1 + 4 = 4; omega)
    refine ⟨a, b, rfl, rfl, ha, hb, ?_⟩
    rcases cas_end hk ha hb hne with h | ⟨h, hn⟩
    · obtain ⟨_, _, _, e⟩ := cas9_two h0 h
      have hb : ((cas c a b).toList == (⟨#[]⟩ : ByteArray).toList) = false := by
        rw [← Bool.not_eq_true, empty_toList, e]
        exact fun e => absurd (list_of e) (by simp)
      rw [hb]
      rw [e] at h
      exact .inl ⟨rfl, a, b, rfl, rfl, h⟩
    · have hb2 : ((cas c a b).toList == (⟨#[]⟩ : ByteArray).toList) = true := (empty_toList _).2 h
      rw [hb2]
      refine .inr ⟨rfl, fun a' b' h' => ?_⟩
      obtain ⟨ha', hb', _, e⟩ := cas9_two h0 h'
      obtain ⟨rfl, rfl⟩ := two_inj ha hb ha' hb' e
      exact hn _ h'
  · cases h
/-- A castling to a side. -/
theorem side_cas {c : Nat → Int} {t k : Nat} (hk : known c) (h0 : c 0 ≠ 1) (ht : c 78 = (t : Int)) (hk2 : k < 2) (hs : sideOk c k = true) :
    ∃ g : Nat, tg c t k = (g : Int) ∧ g < 64 ∧ IsCas c (56 * t + 4) g (two (56 * t + 4) (56 * t + goal k)) ∧ cas c (56 * t + 4) g = two (56 * t + 4) (56 * t + goal k) := by
  have ht2 : t < 2 := by have := hk.2; omega
  have hh : home c = 56 * t := by unfold home; rw [ht, Int.toNat_natCast]
  have hr : rk c k = c (79 + 2 * t + k) := by unfold rk; rw [ht, Int.toNat_natCast]
  have hb := side_rk hs
  have h4 : rk c k ≠ 4 := by
    unfold sideOk at hs
    simp only [Bool.and_eq_true, bne_iff_ne] at hs
    exact hs.2.2.2.1
  rw [hr] at hb h4
  have ho := hs
  have hg := tg_eq ht2 hb
  obtain ⟨r, er⟩ : ∃ r : Nat, c (79 + 2 * t + k) = (r : Int) := ⟨(c (79 + 2 * t + k)).toNat, by omega⟩
  rw [er] at hb h4 hg
  have hi : IsCas c (56 * t + 4) (56 * t + r) (two (56 * t + 4) (56 * t + goal k)) := ⟨by omega, by omega, by omega, .inr ⟨h0, k, hk2, ho, by rw [hh], by rw [hh, hr, er]; omega, by rw [hh]⟩⟩
  refine ⟨56 * t + r, by rw [hg]; omega, by omega, hi, ?_⟩
  rcases cas_end hk (f := 56 * t + 4) (g := 56 * t + r) (by omega) (by omega) (by omega) with h | ⟨_, hn⟩
  · exact cas_fun h hi
  · exact absurd hi (hn _)
theorem rookO_none {c : Nat → Int} {t : Nat} {s : ByteArray} (h0 : c 0 ≠ 1) (ht : c 78 = (t : Int)) (h : ∀ k, k < 2 → sideOk c k = true → s ≠ two (56 * t + 4) (56 * t + goal k)) : RookR c s 0 0 false := by
  refine .inr ⟨rfl, fun a b hc => ?_⟩
  have hh : home c = 56 * t := by unfold home; rw [ht, Int.toNat_natCast]
  obtain ⟨_, _, _, hc⟩ := hc
  rcases hc with ⟨h1, _⟩ | ⟨_, k, hk2, ho, rfl, _, e⟩
  · exact absurd h1 h0
  · rw [hh] at e
    exact h k hk2 ho e
theorem toList_iff (s u : ByteArray) : (s.toList == u.toList) = true ↔ s = u := ⟨bytes_eq, fun h => by rw [h]; exact beq_self_eq_true _⟩
theorem rookO_some {c : Nat → Int} {t k : Nat} {s : ByteArray} {m : Int} (hk : known c) (h0 : c 0 ≠ 1) (ht : c 78 = (t : Int)) (hk2 : k < 2) (hs : sideOk c k = true) (hm : tg c t k = m) (he : two (56 * t + 4) (56 * t + goal k) = s) : RookR c s ((56 * t + 4 : Nat) : Int) m true := by
  obtain ⟨g, h1, _, h2, _⟩ := side_cas hk h0 ht hk2 hs
  rw [he] at h2
  exact .inl ⟨rfl, _, g, rfl, hm ▸ h1, h2⟩
end N

theorem pos_range9 {w : World} {g : Nat} {c : Nat → Int} (h : PosAt w g c) : w.rangeAt g 0 (posL c) := fun j v hv => by
  rw [Nat.zero_add]
  simp only [World.cell?, h.heap]
  simpa [posC] using hv
set_option maxRecDepth 100000 in
set_option maxHeartbeats 2000000 in
theorem mvrook_9 (c : Nat → Int) (s : ByteArray) (hk : N.known c) (hc0 : c 0 = 1) (hs : s.size ≤ 9223372036854775807) : ∃ (f g : Int) (ok : Bool), N.RookR c s f g ok ∧ ∀ w, Calls Try.prog 8 #[.agg (posC c), .string s] w fun e w' => e = .returned (.tuple #[.agg (movC f g 0 0 true), .bool ok]) ∧ Below w.heap.size w w' := by
  obtain ⟨n, m, k, hT, hn, hm, hC⟩ := mvtwo_fix s hs
  have HT := Lib.hid hC
  clear hC
  cases k
  · refine ⟨n, m, false, N.rook9_no hc0 hT, fun w => ?_⟩
    have h0 : MvRes w w.heap.size c ((w.alloc (.cells (posC c) 31)).alloc (.cells #[.int .i8 0, .int .i8 0, .int .u8 0, .int .u8 0, .bool false] 33)) :=
      ⟨(PosAt.new w c).alloc _, by have := RowAt.new (w.alloc (.cells (posC c) 31)) #[.int .i8 0, .int .i8 0, .int .u8 0, .int .u8 0, .bool false] 33; rwa [World.size_alloc] at this, ((Below.refl _ _).alloc (Nat.le_refl _) _).alloc (by simp) _⟩
    have c0 := h0.p.cell (i := 0) (by decide)
    rw [show pk 0 = .u8 from rfl] at c0
    have H0 := Lib.hid h0
    rw [hc0] at c0
    clear h0
    go_enter Try.func8, Try.ntmps8
    go_upto_region 4 with (first
      | (go_at_call 16; (with_reducible refine (HT.out _).mono ?_); rintro e w1 ⟨rfl, hb1⟩; have H1 := Lib.hid (H0.out.next hb1); clear hb1)
      | ((with_reducible refine wp_store_row' rfl 33 _ _ rfl ?_); refine ⟨w1.heap.size, 33, movC n m 0 0 true, rfl, rfl, ⟨_, heap_alloc_new _ _, (by kernel_rfl)⟩, Try.info_mvB _ _ _ _ _, Try.one_mvB _ _ _ _ _, ?_⟩; intro W3 hP hq; have HW := Lib.hid (And.intro ((H1.out.next ((Below.refl _ _).alloc (Nat.le_refl _) _)).other hP H1.out.res.lt) (And.intro hq H1.out.res.lt)); clear hP hq))
    obtain ⟨b, hb⟩ : ∃ b, w1.heap.size = b := ⟨_, rfl⟩
    rw [hb] at HW ⊢
    have hlt := HW.out.2.2
    clear hb H0 H1 c0
    refine wp_region_held (S := fun w' => PosAt w' w.heap.size c ∧ (∃ old, w'.heap[w.heap.size + 1]? = some (.cells old 33 (0, 0)) ∧ old.size = 5) ∧ RowAt w' b 33 (movC n m 0 0 true) ∧ Below w.heap.size w w') (by kernel_rfl) ?_
    have hSd : PosAt W3.drew w.heap.size c ∧ (∃ old, W3.drew.heap[w.heap.size + 1]? = some (.cells old 33 (0, 0)) ∧ old.size = 5) ∧ RowAt W3.drew b 33 (movC n m 0 0 true) ∧ Below w.heap.size w W3.drew := ⟨⟨HW.out.1.p.heap⟩, ⟨_, HW.out.1.res.heap, rfl⟩, ⟨HW.out.2.1.heap⟩, M.below_drew HW.out.1.below 1⟩
    refine takeD 0 (some 25) (.agg (movC n m 0 0 true)) (by kernel_rfl) (by kernel_rfl) (by kernel_rfl) (by kernel_rfl) (by kernel_rfl) (fun _ _ _ h => h) (yieldsIf_load_mid (by kernel_rfl) 33 (.tmp 9) (by kernel_rfl) (b) 0 (by kernel_rfl) ([.int .i8 n, .int .i8 m, .int .u8 0, .int .u8 0, .bool true]) _ (fun _ h => mv_range h.2.2.1) Try.underlying33 rfl (Try.info_mvL _ _ _ _ _)) hSd ?_
    simp only [Act.put, List.setIfInBounds_toArray, List.set_cons_succ, List.set_cons_zero]
    refine takeD 1 (some 26) (.bool false) (by kernel_rfl) (by kernel_rfl) (by kernel_rfl) (by kernel_rfl) (by kernel_rfl) (fun _ _ _ h => h) (yi_pure (v0 := .bool false) (by kernel_rfl) (fun _ => by kernel_rfl) rfl) hSd ?_
    simp only [Act.put, List.setIfInBounds_toArray, List.set_cons_succ, List.set_cons_zero]
    refine takeD 2 (some 27) (.bool false) (by kernel_rfl) (by kernel_rfl) (by kernel_rfl) (by kernel_rfl) (by kernel_rfl) (fun _ _ _ h => h) (yi_pure (v0 := .bool false) (by kernel_rfl) (fun _ => by kernel_rfl) rfl) hSd ?_
    simp only [Act.put, List.setIfInBounds_toArray, List.set_cons_succ, List.set_cons_zero]
    refine takeD 3 (some 28) (undef) (by kernel_rfl) (by kernel_rfl) (by kernel_rfl) (by kernel_rfl) (by kernel_rfl) (fun _ _ _ h => h) (yi_none (by kernel_rfl)) hSd ?_
    simp only [Act.put, List.setIfInBounds_toArray, List.set_cons_succ, List.set_cons_zero]
    refine takeD 4 (some 29) (undef) (by kernel_rfl) (by kernel_rfl) (by kernel_rfl) (by kernel_rfl) (by kernel_rfl) (fun _ _ _ h => h) (yi_none (by kernel_rfl)) hSd ?_
    simp only [Act.put, List.setIfInBounds_toArray, List.set_cons_succ, List.set_cons_zero]
    refine takeD 5 (some 30) (undef) (by kernel_rfl) (by kernel_rfl) (by kernel_rfl) (by kernel_rfl) (by kernel_rfl) (fun _ _ _ h => h) (yi_none (by kernel_rfl)) hSd ?_
    simp only [Act.put, List.setIfInBounds_toArray, List.set_cons_succ, List.set_cons_zero]
    refine takeD 6 (some 31) (.bool false) (by kernel_rfl) (by kernel_rfl) (by kernel_rfl) (by kernel_rfl) (by kernel_rfl) (fun _ _ _ h => h) (yi_pure (v0 := .bool false) (by kernel_rfl) (fun _ => by kernel_rfl) rfl) hSd ?_
    simp only [Act.put, List.setIfInBounds_toArray, List.set_cons_succ, List.set_cons_zero]
    refine takeD 7 (some 32) (.bool false) (by kernel_rfl) (by kernel_rfl) (by kernel_rfl) (by kernel_rfl) (by kernel_rfl) (fun _ _ _ h => h) (yi_pure (v0 := .bool false) (by kernel_rfl) (fun _ => by kernel_rfl) rfl) hSd ?_
    simp only [Act.put, List.setIfInBounds_toArray, List.set_cons_succ, List.set_cons_zero]
    refine takeD 8 (some 33) (undef) (by kernel_rfl) (by kernel_rfl) (by kernel_rfl) (by kernel_rfl) (by kernel_rfl) (fun _ _ _ h => h) (yi_none (by kernel_rfl)) hSd ?_
    simp only [Act.put, List.setIfInBounds_toArray, List.set_cons_succ, List.set_cons_zero]
    refine takeD 9 (some 34) (undef) (by kernel_rfl) (by kernel_rfl) (by kernel_rfl) (by kernel_rfl) (by kernel_rfl) (fun _ _ _ h => h) (yi_none (by kernel_rfl)) hSd ?_
    simp only [Act.put, List.setIfInBounds_toArray, List.set_cons_succ, List.set_cons_zero]
    refine takeD 10 (some 35) (undef) (by kernel_rfl) (by kernel_rfl) (by kernel_rfl) (by kernel_rfl) (by kernel_rfl) (fun _ _ _ h => h) (yi_none (by kernel_rfl)) hSd ?_
    simp only [Act.put, List.setIfInBounds_toArray, List.set_cons_succ, List.set_cons_zero]
    refine takeD 11 (some 36) (undef) (by kernel_rfl) (by kernel_rfl) (by kernel_rfl) (by kernel_rfl) (by kernel_rfl) (fun _ _ _ h => h) (yi_none (by kernel_rfl)) hSd ?_
    simp only [Act.put, List.setIfInBounds_toArray, List.set_cons_succ, List.set_cons_zero]
    refine takeD 12 (some 37) (.bool false) (by kernel_rfl) (by kernel_rfl) (by kernel_rfl) (by kernel_rfl) (by kernel_rfl) (fun _ _ _ h => h) (yi_pure (v0 := .bool false) (by kernel_rfl) (fun _ => by kernel_rfl) rfl) hSd ?_
    simp only [Act.put, List.setIfInBounds_toArray, List.set_cons_succ, List.set_cons_zero]
    refine takeOne 13 (by kernel_rfl) (by kernel_rfl) (by kernel_rfl) ?_
    obtain ⟨old, ho, hz⟩ := hSd.2.1
    refine wp_store_row 33 (.tmp 4) (.tmp 25) (by kernel_rfl) (w.heap.size + 1) (movC n m 0 0 true) (by kernel_rfl) (by kernel_rfl) _ old ho (Try.info_mvB _ _ _ _ _) hz (Try.one_mvB _ _ _ _ _) ?_
    have hV := put_setRow W3.drew (w.heap.size + 1) (movC n m 0 0 true)
    have hR : RowAt (W3.drew.setRow (w.heap.size + 1) (movC n m 0 0 true)) (w.heap.size + 1) 33 (movC n m 0 0 true) := ⟨setRow_heap _ _ _ _ _ _ ho⟩
    have hS : PosAt (W3.drew.setRow (w.heap.size + 1) (movC n m 0 0 true)) w.heap.size c ∧ (∃ old, (W3.drew.setRow (w.heap.size + 1) (movC n m 0 0 true)).heap[w.heap.size + 1]? = some (.cells old 33 (0, 0)) ∧ old.size = 5) ∧ RowAt (W3.drew.setRow (w.heap.size + 1) (movC n m 0 0 true)) b 33 (movC n m 0 0 true) ∧ Below w.heap.size w (W3.drew.setRow (w.heap.size + 1) (movC n m 0 0 true)) := ⟨hV.pos hSd.1 (by omega), ⟨_, hR.heap, rfl⟩, hV.row hSd.2.2.1 (by omega), hV.below hSd.2.2.2 (by omega)⟩
    refine ⟨hS, ?_⟩
    refine takeD 14 (some 5) (.bool false) (by kernel_rfl) (by kernel_rfl) (by kernel_rfl) (by kernel_rfl) (by kernel_rfl) (fun _ _ _ h => h) (yi_pure (v0 := .bool false) (by kernel_rfl) (fun _ => by kernel_rfl) rfl) hS ?_
    simp only [Act.put, List.setIfInBounds_toArray]
    refine wpAnyH_done (by kernel_rfl) ?_ _
    go_wp2_with fail
    exact bodyPost_ret (results_mv_tmp Try.results8 _ _ (w.heap.size + 1) 33 _ (0, 0) _ rfl hR.heap Try.underlying33 rfl (Try.info_mvB _ _ _ _ _)) rfl ⟨rfl, hS.2.2.2⟩
  · by_cases h4 : s.size = 4
    · obtain ⟨x, y, hx, hy, hx64, hy64, hR⟩ := N.rook9_of hk hc0 h4 hT
      have HC : Hid (∀ W, Calls Try.prog 17 #[.agg (posC c), .agg (movC n m 0 0 true)] W fun e w' => e = .returned (.string (N.cas c x y)) ∧ Below W.heap.size W w') := Lib.hid (fun W => by rw [hx, hy]; exact mvcastles_any c x y W hk hx64 hy64)
      obtain ⟨T, hT2⟩ : ∃ T, N.cas c x y = T := ⟨_, rfl⟩
      rw [hT2] at HC hR
      obtain ⟨e, he⟩ : ∃ e, (!(T.toList == (⟨#[]⟩ : ByteArray).toList)) = e := ⟨_, rfl⟩
      rw [he] at hR
      replace h4 : ((s.size : Int) == 4) = true := by rw [h4]; rfl
      refine ⟨n, m, e, hR, ?_⟩
      clear hT hn hm hx hy hx64 hy64 hR hT2 hk
      refine (fun w => ?_)
      have h0 : MvRes w w.heap.size c ((w.alloc (.cells (posC c) 31)).alloc (.cells #[.int .i8 0, .int .i8 0, .int .u8 0, .int .u8 0, .bool false] 33)) :=
        ⟨(PosAt.new w c).alloc _, by have := RowAt.new (w.alloc (.cells (posC c) 31)) #[.int .i8 0, .int .i8 0, .int .u8 0, .int .u8 0, .bool false] 33; rwa [World.size_alloc] at this, ((Below.refl _ _).alloc (Nat.le_refl _) _).alloc (by simp) _⟩
      have c0 := h0.p.cell (i := 0) (by decide)
      rw [show pk 0 = .u8 from rfl] at c0
      have H0 := Lib.hid h0
      rw [hc0] at c0
      clear h0
      go_enter Try.func8, Try.ntmps8
      go_upto_region 4 with (first
        | (go_at_call 16; (with_reducible refine (HT.out _).mono ?_); rintro e w1 ⟨rfl, hb1⟩; have H1 := Lib.hid (H0.out.next hb1); clear hb1)
        | ((with_reducible refine wp_store_row' rfl 33 _ _ rfl ?_); refine ⟨w1.heap.size, 33, movC n m 0 0 true, rfl, rfl, ⟨_, heap_alloc_new _ _, (by kernel_rfl)⟩, Try.info_mvB _ _ _ _ _, Try.one_mvB _ _ _ _ _, ?_⟩; intro W3 hP hq; have HW := Lib.hid (And.intro ((H1.out.next ((Below.refl _ _).alloc (Nat.le_refl _) _)).other hP H1.out.res.lt) (And.intro hq H1.out.res.lt)); clear hP hq))
      obtain ⟨b, hb⟩ : ∃ b, w1.heap.size = b := ⟨_, rfl⟩
      rw [hb] at HW ⊢
      have hlt := HW.out.2.2
      clear hb H0 H1 c0
      have hinfo : (Try.prog.info? 31).map (·.size) = some (posL c).length := by rw [Try.infoPos]; simp [posL]
      cases e
      · refine wp_region_held (S := fun w' => PosAt w' w.heap.size c ∧ (∃ old, w'.heap[w.heap.size + 1]? = some (.cells old 33 (0, 0)) ∧ old.size = 5) ∧ RowAt w' b 33 (movC n m 0 0 true) ∧ Below w.heap.size w w') (by kernel_rfl) ?_
        have hSd : PosAt W3.drew w.heap.size c ∧ (∃ old, W3.drew.heap[w.heap.size + 1]? = some (.cells old 33 (0, 0)) ∧ old.size = 5) ∧ RowAt W3.drew b 33 (movC n m 0 0 true) ∧ Below w.heap.size w W3.drew := ⟨⟨HW.out.1.p.heap⟩, ⟨_, HW.out.1.res.heap, rfl⟩, ⟨HW.out.2.1.heap⟩, M.below_drew HW.out.1.below 1⟩
        refine takeD 0 (some 25) (.agg (movC n m 0 0 true)) (by kernel_rfl) (by kernel_rfl) (by kernel_rfl) (by kernel_rfl) (by kernel_rfl) (fun _ _ _ h => h) (yieldsIf_load_mid (by kernel_rfl) 33 (.tmp 9) (by kernel_rfl) (b) 0 (by kernel_rfl) ([.int .i8 n, .int .i8 m, .int .u8 0, .int .u8 0, .bool true]) _ (fun _ h => mv_range h.2.2.1) Try.underlying33 rfl (Try.info_mvL _ _ _ _ _)) hSd ?_
        simp only [Act.put, List.setIfInBounds_toArray, List.set_cons_succ, List.set_cons_zero]
        refine takeD 1 (some 26) (.bool true) (by kernel_rfl) (by kernel_rfl) (by kernel_rfl) (by kernel_rfl) (by kernel_rfl) (fun _ _ _ h => h) (yi_pure (v0 := .bool true) (by kernel_rfl) (fun _ => by kernel_rfl) rfl) hSd ?_
        simp only [Act.put, List.setIfInBounds_toArray, List.set_cons_succ, List.set_cons_zero]
        refine takeD 2 (some 27) (.bool true) (by kernel_rfl) (by kernel_rfl) (by kernel_rfl) (by kernel_rfl) (by kernel_rfl) (fun _ _ _ h => h) (yi_pure (v0 := .bool true) (by kernel_rfl) (fun _ => by kernel_rfl) rfl) hSd ?_
        simp only [Act.put, List.setIfInBounds_toArray, List.set_cons_succ, List.set_cons_zero]
        refine takeD 3 (some 28) (.string s) (by kernel_rfl) (by kernel_rfl) (by kernel_rfl) (by kernel_rfl) (by kernel_rfl) (fun _ _ _ h => h) (yi_pure (v0 := .string s) (by kernel_rfl) (fun _ => by kernel_rfl) rfl) hSd ?_
        simp only [Act.put, List.setIfInBounds_toArray, List.set_cons_succ, List.set_cons_zero]
        refine takeD 4 (some 29) (.int .i64 (s.size : Int)) (by kernel_rfl) (by kernel_rfl) (by kernel_rfl) (by kernel_rfl) (by kernel_rfl) (fun _ _ _ h => h) (yi_pure (v0 := .int .i64 (s.size : Int)) (by kernel_rfl) (fun _ => by kernel_rfl) rfl) hSd ?_
        simp only [Act.put, List.setIfInBounds_toArray, List.set_cons_succ, List.set_cons_zero]
        refine takeD 5 (some 30) (.bool true) (by kernel_rfl) (by kernel_rfl) (by kernel_rfl) (by kernel_rfl) (by kernel_rfl) (fun _ _ _ h => h) (yi_pure (v0 := .bool ((s.size : Int) == 4)) (by kernel_rfl) (fun _ => by kernel_rfl) (by rw [h4])) hSd ?_
        simp only [Act.put, List.setIfInBounds_toArray, List.set_cons_succ, List.set_cons_zero]
        refine takeD 6 (some 31) (.bool true) (by kernel_rfl) (by kernel_rfl) (by kernel_rfl) (by kernel_rfl) (by kernel_rfl) (fun _ _ _ h => h) (yi_pure (v0 := .bool true) (by kernel_rfl) (fun _ => by kernel_rfl) rfl) hSd ?_
        simp only [Act.put, List.setIfInBounds_toArray, List.set_cons_succ, List.set_cons_zero]
        refine takeD 7 (some 32) (.bool true) (by kernel_rfl) (by kernel_rfl) (by kernel_rfl) (by kernel_rfl) (by kernel_rfl) (fun _ _ _ h => h) (yi_pure (v0 := .bool true) (by kernel_rfl) (fun _ => by kernel_rfl) rfl) hSd ?_
        simp only [Act.put, List.setIfInBounds_toArray, List.set_cons_succ, List.set_cons_zero]
        refine takeD 8 (some 33) (.agg (posC c)) (by kernel_rfl) (by kernel_rfl) (by kernel_rfl) (by kernel_rfl) (by kernel_rfl) (fun _ _ _ h => h) (yieldsIf_load_mid (by kernel_rfl) 31 (.tmp 2) (by kernel_rfl) (w.heap.size) 0 (by kernel_rfl) (posL c) _ (fun _ h => pos_range9 h.1) Try.underlying31 rfl hinfo) hSd ?_
        simp only [Act.put, List.setIfInBounds_toArray, List.set_cons_succ, List.set_cons_zero]
        refine takeD 9 (some 34) (.agg (movC n m 0 0 true)) (by kernel_rfl) (by kernel_rfl) (by kernel_rfl) (by kernel_rfl) (by kernel_rfl) (fun _ _ _ h => h) (yieldsIf_load_mid (by kernel_rfl) 33 (.tmp 9) (by kernel_rfl) (b) 0 (by kernel_rfl) ([.int .i8 n, .int .i8 m, .int .u8 0, .int .u8 0, .bool true]) _ (fun _ h => mv_range h.2.2.1) Try.underlying33 rfl (Try.info_mvL _ _ _ _ _)) hSd ?_
        simp only [Act.put, List.setIfInBounds_toArray, List.set_cons_succ, List.set_cons_zero]
        refine takeCall 10 (some 35) 17 (#[.agg (posC c), .agg (movC n m 0 0 true)]) (.string T) (fun w9 => Below W3.drew.heap.size W3.drew w9) (by kernel_rfl) (by kernel_rfl) (by kernel_rfl) (by kernel_rfl) (by kernel_rfl) (HC.out _) (fun u3 hRu3 => ?_)
        simp only [Act.put, List.setIfInBounds_toArray, List.set_cons_succ, List.set_cons_zero]
        have hS3 : PosAt u3 w.heap.size c ∧ (∃ old, u3.heap[w.heap.size + 1]? = some (.cells old 33 (0, 0)) ∧ old.size = 5) ∧ RowAt u3 b 33 (movC n m 0 0 true) ∧ Below w.heap.size w u3 := ⟨hSd.1.below hRu3, hSd.2.1.imp fun old h => ⟨(hRu3.block _ (Array.getElem?_eq_some_iff.1 h.1).1).trans h.1, h.2⟩, hSd.2.2.1.below hRu3, below_next hSd.2.2.2 hRu3⟩
        refine ⟨hS3, ?_⟩
        refine takeD 11 (some 36) (.bool false) (by kernel_rfl) (by kernel_rfl) (by kernel_rfl) (by kernel_rfl) (by kernel_rfl) (fun _ _ _ h => h) (yi_pure (v0 := .bool (!(T.toList == (⟨#[]⟩ : ByteArray).toList))) (by kernel_rfl) (fun _ => by kernel_rfl) (by rw [he])) hS3 ?_
        simp only [Act.put, List.setIfInBounds_toArray, List.set_cons_succ, List.set_cons_zero]
        refine takeD 12 (some 37) (.bool false) (by kernel_rfl) (by kernel_rfl) (by kernel_rfl) (by kernel_rfl) (by kernel_rfl) (fun _ _ _ h => h) (yi_pure (v0 := .bool false) (by kernel_rfl) (fun _ => by kernel_rfl) rfl) hS3 ?_
        simp only [Act.put, List.setIfInBounds_toArray, List.set_cons_succ, List.set_cons_zero]
        refine takeOne 13 (by kernel_rfl) (by kernel_rfl) (by kernel_rfl) ?_
        obtain ⟨old, ho, hz⟩ := hS3.2.1
        refine wp_store_row 33 (.tmp 4) (.tmp 25) (by kernel_rfl) (w.heap.size + 1) (movC n m 0 0 true) (by kernel_rfl) (by kernel_rfl) _ old ho (Try.info_mvB _ _ _ _ _) hz (Try.one_mvB _ _ _ _ _) ?_
        have hV := put_setRow u3 (w.heap.size + 1) (movC n m 0 0 true)
        have hR : RowAt (u3.setRow (w.heap.size + 1) (movC n m 0 0 true)) (w.heap.size + 1) 33 (movC n m 0 0 true) := ⟨setRow_heap _ _ _ _ _ _ ho⟩
        have hS : PosAt (u3.setRow (w.heap.size + 1) (movC n m 0 0 true)) w.heap.size c ∧ (∃ old, (u3.setRow (w.heap.size + 1) (movC n m 0 0 true)).heap[w.heap.size + 1]? = some (.cells old 33 (0, 0)) ∧ old.size = 5) ∧ RowAt (u3.setRow (w.heap.size + 1) (movC n m 0 0 true)) b 33 (movC n m 0 0 true) ∧ Below w.heap.size w (u3.setRow (w.heap.size + 1) (movC n m 0 0 true)) := ⟨hV.pos hS3.1 (by omega), ⟨_, hR.heap, rfl⟩, hV.row hS3.2.2.1 (by omega), hV.below hS3.2.2.2 (by omega)⟩
        refine ⟨hS, ?_⟩
        refine takeD 14 (some 5) (.bool false) (by kernel_rfl) (by kernel_rfl) (by kernel_rfl) (by kernel_rfl) (by kernel_rfl) (fun _ _ _ h => h) (yi_pure (v0 := .bool false) (by kernel_rfl) (fun _ => by kernel_rfl) rfl) hS ?_
        simp only [Act.put, List.setIfInBounds_toArray]
        refine wpAnyH_done (by kernel_rfl) ?_ _
        go_wp2_with fail
        exact bodyPost_ret (results_mv_tmp Try.results8 _ _ (w.heap.size + 1) 33 _ (0, 0) _ rfl hR.heap Try.underlying33 rfl (Try.info_mvB _ _ _ _ _)) rfl ⟨rfl, hS.2.2.2⟩
      · refine wp_region_held (S := fun w' => PosAt w' w.heap.size c ∧ (∃ old, w'.heap[w.heap.size + 1]? = some (.cells old 33 (0, 0)) ∧ old.size = 5) ∧ RowAt w' b 33 (movC n m 0 0 true) ∧ Below w.heap.size w w') (by kernel_rfl) ?_
        have hSd : PosAt W3.drew w.heap.size c ∧ (∃ old, W3.drew.heap[w.heap.size + 1]? = some (.cells old 33 (0, 0)) ∧ old.size = 5) ∧ RowAt W3.drew b 33 (movC n m 0 0 true) ∧ Below w.heap.size w W3.drew := ⟨⟨HW.out.1.p.heap⟩, ⟨_, HW.out.1.res.heap, rfl⟩, ⟨HW.out.2.1.heap⟩, M.below_drew HW.out.1.below 1⟩
        refine takeD 0 (some 25) (.agg (movC n m 0 0 true)) (by kernel_rfl) (by kernel_rfl) (by kernel_rfl) (by kernel_rfl) (by kernel_rfl) (fun _ _ _ h => h) (yieldsIf_load_mid (by kernel_rfl) 33 (.tmp 9) (by kernel_rfl) (b) 0 (by kernel_rfl) ([.int .i8 n, .int .i8 m, .int .u8 0, .int .u8 0, .bool true]) _ (fun _ h => mv_range h.2.2.1) Try.underlying33 rfl (Try.info_mvL _ _ _ _ _)) hSd ?_
        simp only [Act.put, List.setIfInBounds_toArray, List.set_cons_succ, List.set_cons_zero]
        refine takeD 1 (some 26) (.bool true) (by kernel_rfl) (by kernel_rfl) (by kernel_rfl) (by kernel_rfl) (by kernel_rfl) (fun _ _ _ h => h) (yi_pure (v0 := .bool true) (by kernel_rfl) (fun _ => by kernel_rfl) rfl) hSd ?_
        simp only [Act.put, List.setIfInBounds_toArray, List.set_cons_succ, List.set_cons_zero]
        refine takeD 2 (some 27) (.bool true) (by kernel_rfl) (by kernel_rfl) (by kernel_rfl) (by kernel_rfl) (by kernel_rfl) (fun _ _ _ h => h) (yi_pure (v0 := .bool true) (by kernel_rfl) (fun _ => by kernel_rfl) rfl) hSd ?_
        simp only [Act.put, List.setIfInBounds_toArray, List.set_cons_succ, List.set_cons_zero]
        refine takeD 3 (some 28) (.string s) (by kernel_rfl) (by kernel_rfl) (by kernel_rfl) (by kernel_rfl) (by kernel_rfl) (fun _ _ _ h => h) (yi_pure (v0 := .string s) (by kernel_rfl) (fun _ => by kernel_rfl) rfl) hSd ?_
        simp only [Act.put, List.setIfInBounds_toArray, List.set_cons_succ, List.set_cons_zero]
        refine takeD 4 (some 29) (.int .i64 (s.size : Int)) (by kernel_rfl) (by kernel_rfl) (by kernel_rfl) (by kernel_rfl) (by kernel_rfl) (fun _ _ _ h => h) (yi_pure (v0 := .int .i64 (s.size : Int)) (by kernel_rfl) (fun _ => by kernel_rfl) rfl) hSd ?_
        simp only [Act.put, List.setIfInBounds_toArray, List.set_cons_succ, List.set_cons_zero]
        refine takeD 5 (some 30) (.bool true) (by kernel_rfl) (by kernel_rfl) (by kernel_rfl) (by kernel_rfl) (by kernel_rfl) (fun _ _ _ h => h) (yi_pure (v0 := .bool ((s.size : Int) == 4)) (by kernel_rfl) (fun _ => by kernel_rfl) (by rw [h4])) hSd ?_
        simp only [Act.put, List.setIfInBounds_toArray, List.set_cons_succ, List.set_cons_zero]
        refine takeD 6 (some 31) (.bool true) (by kernel_rfl) (by kernel_rfl) (by kernel_rfl) (by kernel_rfl) (by kernel_rfl) (fun _ _ _ h => h) (yi_pure (v0 := .bool true) (by kernel_rfl) (fun _ => by kernel_rfl) rfl) hSd ?_
        simp only [Act.put, List.setIfInBounds_toArray, List.set_cons_succ, List.set_cons_zero]
        refine takeD 7 (some 32) (.bool true) (by kernel_rfl) (by kernel_rfl) (by kernel_rfl) (by kernel_rfl) (by kernel_rfl) (fun _ _ _ h => h) (yi_pure (v0 := .bool true) (by kernel_rfl) (fun _ => by kernel_rfl) rfl) hSd ?_
        simp only [Act.put, List.setIfInBounds_toArray, List.set_cons_succ, List.set_cons_zero]
        refine takeD 8 (some 33) (.agg (posC c)) (by kernel_rfl) (by kernel_rfl) (by kernel_rfl) (by kernel_rfl) (by kernel_rfl) (fun _ _ _ h => h) (yieldsIf_load_mid (by kernel_rfl) 31 (.tmp 2) (by kernel_rfl) (w.heap.size) 0 (by kernel_rfl) (posL c) _ (fun _ h => pos_range9 h.1) Try.underlying31 rfl hinfo) hSd ?_
        simp only [Act.put, List.setIfInBounds_toArray, List.set_cons_succ, List.set_cons_zero]
        refine takeD 9 (some 34) (.agg (movC n m 0 0 true)) (by kernel_rfl) (by kernel_rfl) (by kernel_rfl) (by kernel_rfl) (by kernel_rfl) (fun _ _ _ h => h) (yieldsIf_load_mid (by kernel_rfl) 33 (.tmp 9) (by kernel_rfl) (b) 0 (by kernel_rfl) ([.int .i8 n, .int .i8 m, .int .u8 0, .int .u8 0, .bool true]) _ (fun _ h => mv_range h.2.2.1) Try.underlying33 rfl (Try.info_mvL _ _ _ _ _)) hSd ?_
        simp only [Act.put, List.setIfInBounds_toArray, List.set_cons_succ, List.set_cons_zero]
        refine takeCall 10 (some 35) 17 (#[.agg (posC c), .agg (movC n m 0 0 true)]) (.string T) (fun w9 => Below W3.drew.heap.size W3.drew w9) (by kernel_rfl) (by kernel_rfl) (by kernel_rfl) (by kernel_rfl) (by kernel_rfl) (HC.out _) (fun u3 hRu3 => ?_)
        simp only [Act.put, List.setIfInBounds_toArray, List.set_cons_succ, List.set_cons_zero]
        have hS3 : PosAt u3 w.heap.size c ∧ (∃ old, u3.heap[w.heap.size + 1]? = some (.cells old 33 (0, 0)) ∧ old.size = 5) ∧ RowAt u3 b 33 (movC n m 0 0 true) ∧ Below w.heap.size w u3 := ⟨hSd.1.below hRu3, hSd.2.1.imp fun old h => ⟨(hRu3.block _ (Array.getElem?_eq_some_iff.1 h.1).1).trans h.1, h.2⟩, hSd.2.2.1.below hRu3, below_next hSd.2.2.2 hRu3⟩
        refine ⟨hS3, ?_⟩
        refine takeD 11 (some 36) (.bool true) (by kernel_rfl) (by kernel_rfl) (by kernel_rfl) (by kernel_rfl) (by kernel_rfl) (fun _ _ _ h => h) (yi_pure (v0 := .bool (!(T.toList == (⟨#[]⟩ : ByteArray).toList))) (by kernel_rfl) (fun _ => by kernel_rfl) (by rw [he])) hS3 ?_
        simp only [Act.put, List.setIfInBounds_toArray, List.set_cons_succ, List.set_cons_zero]
        refine takeD 12 (some 37) (.bool true) (by kernel_rfl) (by kernel_rfl) (by kernel_rfl) (by kernel_rfl) (by kernel_rfl) (fun _ _ _ h => h) (yi_pure (v0 := .bool true) (by kernel_rfl) (fun _ => by kernel_rfl) rfl) hS3 ?_
        simp only [Act.put, List.setIfInBounds_toArray, List.set_cons_succ, List.set_cons_zero]
        refine takeOne 13 (by kernel_rfl) (by kernel_rfl) (by kernel_rfl) ?_
        obtain ⟨old, ho, hz⟩ := hS3.2.1
        refine wp_store_row 33 (.tmp 4) (.tmp 25) (by kernel_rfl) (w.heap.size + 1) (movC n m 0 0 true) (by kernel_rfl) (by kernel_rfl) _ old ho (Try.info_mvB _ _ _ _ _) hz (Try.one_mvB _ _ _ _ _) ?_
        have hV := put_setRow u3 (w.heap.size + 1) (movC n m 0 0 true)
        have hR : RowAt (u3.setRow (w.heap.size + 1) (movC n m 0 0 true)) (w.heap.size + 1) 33 (movC n m 0 0 true) := ⟨setRow_heap _ _ _ _ _ _ ho⟩
        have hS : PosAt (u3.setRow (w.heap.size + 1) (movC n m 0 0 true)) w.heap.size c ∧ (∃ old, (u3.setRow (w.heap.size + 1) (movC n m 0 0 true)).heap[w.heap.size + 1]? = some (.cells old 33 (0, 0)) ∧ old.size = 5) ∧ RowAt (u3.setRow (w.heap.size + 1) (movC n m 0 0 true)) b 33 (movC n m 0 0 true) ∧ Below w.heap.size w (u3.setRow (w.heap.size + 1) (movC n m 0 0 true)) := ⟨hV.pos hS3.1 (by omega), ⟨_, hR.heap, rfl⟩, hV.row hS3.2.2.1 (by omega), hV.below hS3.2.2.2 (by omega)⟩
        refine ⟨hS, ?_⟩
        refine takeD 14 (some 5) (.bool true) (by kernel_rfl) (by kernel_rfl) (by kernel_rfl) (by kernel_rfl) (by kernel_rfl) (fun _ _ _ h => h) (yi_pure (v0 := .bool true) (by kernel_rfl) (fun _ => by kernel_rfl) rfl) hS ?_
        simp only [Act.put, List.setIfInBounds_toArray]
        refine wpAnyH_done (by kernel_rfl) ?_ _
        go_wp2_with fail
        exact bodyPost_ret (results_mv_tmp Try.results8 _ _ (w.heap.size + 1) 33 _ (0, 0) _ rfl hR.heap Try.underlying33 rfl (Try.info_mvB _ _ _ _ _)) rfl ⟨rfl, hS.2.2.2⟩
    · refine ⟨n, m, false, N.rook9_size hc0 h4, fun w => ?_⟩
      have h0 : MvRes w w.heap.size c ((w.alloc (.cells (posC c) 31)).alloc (.cells #[.int .i8 0, .int .i8 0, .int .u8 0, .int .u8 0, .bool false] 33)) :=
        ⟨(PosAt.new w c).alloc _, by have := RowAt.new (w.alloc (.cells (posC c) 31)) #[.int .i8 0, .int .i8 0, .int .u8 0, .int .u8 0, .bool false] 33; rwa [World.size_alloc] at this, ((Below.refl _ _).alloc (Nat.le_refl _) _).alloc (by simp) _⟩
      have c0 := h0.p.cell (i := 0) (by decide)
      rw [show pk 0 = .u8 from rfl] at c0
      have H0 := Lib.hid h0
      rw [hc0] at c0
      clear h0
      go_enter Try.func8, Try.ntmps8
      go_upto_region 4 with (first
        | (go_at_call 16; (with_reducible refine (HT.out _).mono ?_); rintro e w1 ⟨rfl, hb1⟩; have H1 := Lib.hid (H0.out.next hb1); clear hb1)
        | ((with_reducible refine wp_store_row' rfl 33 _ _ rfl ?_); refine ⟨w1.heap.size, 33, movC n m 0 0 true, rfl, rfl, ⟨_, heap_alloc_new _ _, (by kernel_rfl)⟩, Try.info_mvB _ _ _ _ _, Try.one_mvB _ _ _ _ _, ?_⟩; intro W3 hP hq; have HW := Lib.hid (And.intro ((H1.out.next ((Below.refl _ _).alloc (Nat.le_refl _) _)).other hP H1.out.res.lt) (And.intro hq H1.out.res.lt)); clear hP hq))
      obtain ⟨b, hb⟩ : ∃ b, w1.heap.size = b := ⟨_, rfl⟩
      rw [hb] at HW ⊢
      have hlt := HW.out.2.2
      clear hb H0 H1 c0
      replace h4 : ((s.size : Int) == 4) = false := by simp; omega
      refine wp_region_held (S := fun w' => PosAt w' w.heap.size c ∧ (∃ old, w'.heap[w.heap.size + 1]? = some (.cells old 33 (0, 0)) ∧ old.size = 5) ∧ RowAt w' b 33 (movC n m 0 0 true) ∧ Below w.heap.size w w') (by kernel_rfl) ?_
      have hSd : PosAt W3.drew w.heap.size c ∧ (∃ old, W3.drew.heap[w.heap.size + 1]? = some (.cells old 33 (0, 0)) ∧ old.size = 5) ∧ RowAt W3.drew b 33 (movC n m 0 0 true) ∧ Below w.heap.size w W3.drew := ⟨⟨HW.out.1.p.heap⟩, ⟨_, HW.out.1.res.heap, rfl⟩, ⟨HW.out.2.1.heap⟩, M.below_drew HW.out.1.below 1⟩
      refine takeD 0 (some 25) (.agg (movC n m 0 0 true)) (by kernel_rfl) (by kernel_rfl) (by kernel_rfl) (by kernel_rfl) (by kernel_rfl) (fun _ _ _ h => h) (yieldsIf_load_mid (by kernel_rfl) 33 (.tmp 9) (by kernel_rfl) (b) 0 (by kernel_rfl) ([.int .i8 n, .int .i8 m, .int .u8 0, .int .u8 0, .bool true]) _ (fun _ h => mv_range h.2.2.1) Try.underlying33 rfl (Try.info_mvL _ _ _ _ _)) hSd ?_
      simp only [Act.put, List.setIfInBounds_toArray, List.set_cons_succ, List.set_cons_zero]
      refine takeD 1 (some 26) (.bool true) (by kernel_rfl) (by kernel_rfl) (by kernel_rfl) (by kernel_rfl) (by kernel_rfl) (fun _ _ _ h => h) (yi_pure (v0 := .bool true) (by kernel_rfl) (fun _ => by kernel_rfl) rfl) hSd ?_
      simp only [Act.put, List.setIfInBounds_toArray, List.set_cons_succ, List.set_cons_zero]
      refine takeD 2 (some 27) (.bool true) (by kernel_rfl) (by kernel_rfl) (by kernel_rfl) (by kernel_rfl) (by kernel_rfl) (fun _ _ _ h => h) (yi_pure (v0 := .bool true) (by kernel_rfl) (fun _ => by kernel_rfl) rfl) hSd ?_
      simp only [Act.put, List.setIfInBounds_toArray, List.set_cons_succ, List.set_cons_zero]
      refine takeD 3 (some 28) (.string s) (by kernel_rfl) (by kernel_rfl) (by kernel_rfl) (by kernel_rfl) (by kernel_rfl) (fun _ _ _ h => h) (yi_pure (v0 := .string s) (by kernel_rfl) (fun _ => by kernel_rfl) rfl) hSd ?_
      simp only [Act.put, List.setIfInBounds_toArray, List.set_cons_succ, List.set_cons_zero]
      refine takeD 4 (some 29) (.int .i64 (s.size : Int)) (by kernel_rfl) (by kernel_rfl) (by kernel_rfl) (by kernel_rfl) (by kernel_rfl) (fun _ _ _ h => h) (yi_pure (v0 := .int .i64 (s.size : Int)) (by kernel_rfl) (fun _ => by kernel_rfl) rfl) hSd ?_
      simp only [Act.put, List.setIfInBounds_toArray, List.set_cons_succ, List.set_cons_zero]
      refine takeD 5 (some 30) (.bool false) (by kernel_rfl) (by kernel_rfl) (by kernel_rfl) (by kernel_rfl) (by kernel_rfl) (fun _ _ _ h => h) (yi_pure (v0 := .bool ((s.size : Int) == 4)) (by kernel_rfl) (fun _ => by kernel_rfl) (by rw [h4])) hSd ?_
      simp only [Act.put, List.setIfInBounds_toArray, List.set_cons_succ, List.set_cons_zero]
      refine takeD 6 (some 31) (.bool false) (by kernel_rfl) (by kernel_rfl) (by kernel_rfl) (by kernel_rfl) (by kernel_rfl) (fun _ _ _ h => h) (yi_pure (v0 := .bool false) (by kernel_rfl) (fun _ => by kernel_rfl) rfl) hSd ?_
      simp only [Act.put, List.setIfInBounds_toArray, List.set_cons_succ, List.set_cons_zero]
      refine takeD 7 (some 32) (.bool false) (by kernel_rfl) (by kernel_rfl) (by kernel_rfl) (by kernel_rfl) (by kernel_rfl) (fun _ _ _ h => h) (yi_pure (v0 := .bool false) (by kernel_rfl) (fun _ => by kernel_rfl) rfl) hSd ?_
      simp only [Act.put, List.setIfInBounds_toArray, List.set_cons_succ, List.set_cons_zero]
      refine takeD 8 (some 33) (undef) (by kernel_rfl) (by kernel_rfl) (by kernel_rfl) (by kernel_rfl) (by kernel_rfl) (fun _ _ _ h => h) (yi_none (by kernel_rfl)) hSd ?_
      simp only [Act.put, List.setIfInBounds_toArray, List.set_cons_succ, List.set_cons_zero]
      refine takeD 9 (some 34) (undef) (by kernel_rfl) (by kernel_rfl) (by kernel_rfl) (by kernel_rfl) (by kernel_rfl) (fun _ _ _ h => h) (yi_none (by kernel_rfl)) hSd ?_
      simp only [Act.put, List.setIfInBounds_toArray, List.set_cons_succ, List.set_cons_zero]
      refine takeD 10 (some 35) (undef) (by kernel_rfl) (by kernel_rfl) (by kernel_rfl) (by kernel_rfl) (by kernel_rfl) (fun _ _ _ h => h) (yi_none (by kernel_rfl)) hSd ?_
      simp only [Act.put, List.setIfInBounds_toArray, List.set_cons_succ, List.set_cons_zero]
      refine takeD 11 (some 36) (undef) (by kernel_rfl) (by kernel_rfl) (by kernel_rfl) (by kernel_rfl) (by kernel_rfl) (fun _ _ _ h => h) (yi_none (by kernel_rfl)) hSd ?_
      simp only [Act.put, List.setIfInBounds_toArray, List.set_cons_succ, List.set_cons_zero]
      refine takeD 12 (some 37) (.bool false) (by kernel_rfl) (by kernel_rfl) (by kernel_rfl) (by kernel_rfl) (by kernel_rfl) (fun _ _ _ h => h) (yi_pure (v0 := .bool false) (by kernel_rfl) (fun _ => by kernel_rfl) rfl) hSd ?_
      simp only [Act.put, List.setIfInBounds_toArray, List.set_cons_succ, List.set_cons_zero]
      refine takeOne 13 (by kernel_rfl) (by kernel_rfl) (by kernel_rfl) ?_
      obtain ⟨old, ho, hz⟩ := hSd.2.1
      refine wp_store_row 33 (.tmp 4) (.tmp 25) (by kernel_rfl) (w.heap.size + 1) (movC n m 0 0 true) (by kernel_rfl) (by kernel_rfl) _ old ho (Try.info_mvB _ _ _ _ _) hz (Try.one_mvB _ _ _ _ _) ?_
      have hV := put_setRow W3.drew (w.heap.size + 1) (movC n m 0 0 true)
      have hR : RowAt (W3.drew.setRow (w.heap.size + 1) (movC n m 0 0 true)) (w.heap.size + 1) 33 (movC n m 0 0 true) := ⟨setRow_heap _ _ _ _ _ _ ho⟩
      have hS : PosAt (W3.drew.setRow (w.heap.size + 1) (movC n m 0 0 true)) w.heap.size c ∧ (∃ old, (W3.drew.setRow (w.heap.size + 1) (movC n m 0 0 true)).heap[w.heap.size + 1]? = some (.cells old 33 (0, 0)) ∧ old.size = 5) ∧ RowAt (W3.drew.setRow (w.heap.size + 1) (movC n m 0 0 true)) b 33 (movC n m 0 0 true) ∧ Below w.heap.size w (W3.drew.setRow (w.heap.size + 1) (movC n m 0 0 true)) := ⟨hV.pos hSd.1 (by omega), ⟨_, hR.heap, rfl⟩, hV.row hSd.2.2.1 (by omega), hV.below hSd.2.2.2 (by omega)⟩
      refine ⟨hS, ?_⟩
      refine takeD 14 (some 5) (.bool false) (by kernel_rfl) (by kernel_rfl) (by kernel_rfl) (by kernel_rfl) (by kernel_rfl) (fun _ _ _ h => h) (yi_pure (v0 := .bool false) (by kernel_rfl) (fun _ => by kernel_rfl) rfl) hS ?_
      simp only [Act.put, List.setIfInBounds_toArray]
      refine wpAnyH_done (by kernel_rfl) ?_ _
      go_wp2_with fail
      exact bodyPost_ret (results_mv_tmp Try.results8 _ _ (w.heap.size + 1) 33 _ (0, 0) _ rfl hR.heap Try.underlying33 rfl (Try.info_mvB _ _ _ _ _)) rfl ⟨rfl, hS.2.2.2⟩
end Go.Proofs.Ytldpejeodhkgdaa
