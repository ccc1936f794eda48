/- The laws of layer 27: OrderFirst. -/
import Derived.Test.YtdcmjbebkmicaaaLaw27c
namespace Go.Proofs.Ytdcmjbebkmicaaa
open Go.RowKit Go.Sort Go.Lib

namespace O
theorem first_zero (l : List Mv) (m : Mv) (h : m ∈ l) : (first l m)[0]? = some m := by
  unfold first; rw [if_pos h]; rfl
theorem first_shift (l : List Mv) (m x : Mv) (n : Nat) (h : m ∈ l) (hn : M.noneTo l m (n + 1)) (hx : l[n]? = some x) : (first l m)[n + 1]? = some x ∧ n + 1 < l.length := by
  obtain ⟨k, hk, e⟩ : ∃ k, l[k]? = some m ∧ M.noneTo l m k := by
    have key : ∀ d, ∀ k, k + d = l.length → M.noneTo l m k → ∃ k, l[k]? = some m ∧ M.noneTo l m k := by
      intro d
      induction d with
      | zero =>
        intro k hk hn
        obtain ⟨i, hi, e⟩ := List.mem_iff_getElem.1 h
        exact absurd (by rw [List.getElem?_eq_getElem hi, e]) (hn i (by omega))
      | succ d ih =>
        intro k hk hn
        by_cases e : l[k]? = some m
        · exact ⟨k, e, hn⟩
        · exact ih (k + 1) (by omega) (fun j hj => by
            by_cases ej : j = k
            · rw [ej]; exact e
            · exact hn j (by omega))
    exact key l.length 0 (by omega) (fun j hj => absurd hj (by omega))
  have hkn : n + 1 ≤ k := by
    by_cases hlt : k < n + 1
    · exact absurd hk (hn k hlt)
    · omega
  have hkl := (List.getElem?_eq_some_iff.1 hk).1
  refine ⟨?_, by omega⟩
  rw [first_found l m k hk e, List.getElem?_cons_succ, List.getElem?_append_left (by rw [List.length_take]; omega), List.getElem?_take_of_lt (by omega), hx]
theorem first_rest (l : List Mv) (m : Mv) (n : Nat) (hx : l[n]? = some m) (hn : M.noneTo l m n) (j : Nat) (hj : n < j) : (first l m)[j]? = l[j]? := by
  obtain ⟨i, rfl⟩ : ∃ i, j = n + 1 + i := ⟨j - (n + 1), by omega⟩
  have hl := (List.getElem?_eq_some_iff.1 hx).1
  rw [first_found l m n hx hn, show n + 1 + i = (n + i) + 1 by omega, List.getElem?_cons_succ, List.getElem?_append_right (by rw [List.length_take]; omega), List.length_take, List.getElem?_drop]
  congr 1
  omega
/-- Where the walk through the list stands. -/
def At1 (l : List Mv) (m : Mv) (n : Nat) (met : Bool) (k : Nat) : Prop :=
  (met = true ∧ k = n + 1 ∧ m ∈ l ∧ M.noneTo l m n) ∨ (met = false ∧ k = n ∧ ∀ j, n ≤ j → (first l m)[j]? = l[j]?)
end O

set_option maxRecDepth 100000 in
set_option maxHeartbeats 4000000 in
theorem orderFirst_walk (c : Nat → Int) (l : List Mv) (v : Value) (f' g' p' d' : Int) (c' : Bool) (w : World) (_ : PosOk c) (_ : ∀ m ∈ l, O.MvOk m) (hr : M.Reads w v l) (_ : O.MvOk (f', g', p', d', c')) :
    Calls Try.prog 9 #[.agg (posC c), v, .agg #[.int .i8 f', .int .i8 g', .int .u8 p', .int .u8 d', .bool c']] w fun e w' => e = .returned (.bool true) ∧ Below w.heap.size w w' := by
  obtain ⟨A, hA⟩ : ∃ A : Array Value, #[.int .i8 f', .int .i8 g', .int .u8 p', .int .u8 d', .bool c'] = A := ⟨_, rfl⟩
  obtain ⟨W0, hW0⟩ : ∃ W0, ((w.alloc (.cells (posC c) 31)).alloc (.cells A 33)) = W0 := ⟨_, rfl⟩
  have hS0 : PosAt W0 w.heap.size c ∧ RowAt W0 (w.heap.size + 1) 33 A ∧ Below w.heap.size w W0 := by
    rw [← hW0]
    refine ⟨(PosAt.new w c).alloc _, ?_, ((Grows.alloc _ _).trans (Grows.alloc _ _)).below⟩
    have := RowAt.new (w.alloc (.cells (posC c) 31)) A 33
    rwa [show (w.alloc (.cells (posC c) 31)).heap.size = w.heap.size + 1 by show (w.heap.push _).size = _; simp] at this
  obtain ⟨ao, cap, hv, h1, h2, -⟩ := id hr
  subst hv
  have hs5 : (Try.prog.info? 33).map (·.size) = some A.size := Try.info_mv _ (by rw [← hA]; rfl)
  rw [hA]
  have HAA := Lib.hid hA
  have HR := Lib.hid (fun W (hb : Below w.heap.size w W) => hr.below hb)
  clear hr hA
  go_enter Try.func9, Try.ntmps9
  go_wp2_with fail
  clear hW0
  refine (awake27_any _).mono ?_
  rintro e w1 ⟨rfl, hb⟩
  have hS1 : PosAt w1 w.heap.size c ∧ RowAt w1 (w.heap.size + 1) 33 A ∧ Below w.heap.size w w1 := ⟨hS0.1.below hb, hS0.2.1.below hb, below_next hS0.2.2 hb⟩
  clear hS0 hb
  obtain ⟨hp, hm, hb0⟩ := hS1
  by_cases hlen : 200 < l.length
  · have hlI : (200 : Int) < (l.length : Int) := by omega
    go_wp2_with fail
    go_ret
    exact ⟨rfl, hb0⟩
  · have hlI : ¬ (200 : Int) < (l.length : Int) := by omega
    have HF := Lib.hid (fun W (h : Below w.heap.size w W) => ofirst_any c l _ f' g' p' d' c' W (by omega) (HR.out W h))
    have HC := Lib.hid (fun W (h : Below w.heap.size w W) => count_any l _ (f', g', p', d', c') W (HR.out W h) (by omega))
    dsimp only at HC
    rw [HAA.out] at HF HC
    go_wp2_with (first
      | ((with_reducible refine wp_load_box rfl _ rfl ?_); refine ⟨_, _, rfl, hp, ?_⟩)
      | ((with_reducible refine wp_load_row' rfl 33 _ rfl Try.underlying33 rfl ?_); refine ⟨_, _, _, rfl, hm, ?_, ?_⟩; exact hs5)
      | fail)
    refine (HF.out _ hb0).mono ?_
    rintro e w2 ⟨v2, rfl, hown, hb⟩
    replace hm := hm.below hb
    replace hb0 := below_next hb0 hb
    clear hb hp
    obtain ⟨l2, hl2⟩ : ∃ l2, O.first l (f', g', p', d', c') = l2 := ⟨_, rfl⟩
    have hlen2 : l2.length = l.length := by rw [← hl2]; exact O.first_len _ _
    rw [hl2] at hown
    have hr2 : M.Reads w2 v2 l2 := M.reads_own (by rw [hlen2]; exact hown)
    obtain ⟨ao2, cap2, hv2, k1, k2, -⟩ := id hr2
    subst hv2
    have Hl2 := Lib.hid hl2
    have HA1 := Lib.hid (fun W (h : Below w2.heap.size w2 W) i x (hx : l[i]? = some x) => (HR.out _ hb0).at h rfl i x hx)
    have HA2 := Lib.hid (fun W (h : Below w2.heap.size w2 W) i x (hx : l2[i]? = some x) => hr2.at h rfl i x hx)
    have HM := Lib.hid (fun W (h : Below w2.heap.size w2 W) => hm.below h)
    have HB := Lib.hid hb0
    rw [hlen2] at k1 ⊢
    obtain ⟨q, hq⟩ : ∃ q, l.length = q := ⟨_, rfl⟩
    have Hq := Lib.hid (And.intro hq (hlen2.trans hq))
    rw [hq] at h1 k1 hlen hlI ⊢
    rw [hq] at HC
    unfold maxLen at k2 h2
    clear hown hq hlen2 hr2 HF hl2
    go_wp2_with (first
      | ((with_reducible refine wp_load_row' rfl 33 _ rfl Try.underlying33 rfl ?_); refine ⟨_, _, _, rfl, hm, ?_, ?_⟩; exact hs5)
      | fail)
    refine (HC.out _ hb0).mono ?_
    rintro e w3 ⟨rfl, hg3⟩
    clear hm
    have hb3 := hg3.below
    obtain ⟨kc, hkc⟩ : ∃ kc, List.count (f', g', p', d', c') l = kc := ⟨_, rfl⟩
    have Hkc := Lib.hid hkc
    rw [hkc]
    clear hkc HC
    by_cases hk0 : 0 < kc
    · have hkI : (0 : Int) < (kc : Int) := by omega
      have hmem : (f', g', p', d', c') ∈ l := List.count_pos_iff.1 (by rw [Hkc.out]; exact hk0)
      have h0 : 0 < q := by rw [← Hq.out.1]; exact List.length_pos_of_mem hmem
      obtain ⟨b2, off2, e2, hbs2, ha2⟩ := HA2.out w3 hb3 0 _ (by rw [← Hl2.out]; exact O.first_zero l _ hmem)
      rw [Nat.zero_mul, Nat.add_zero] at ha2
      cases e2
      have hm3 := HM.out w3 hb3
      rw [← HAA.out] at hm3
      have hxx : ((f', g', p', d', c') != (f', g', p', d', c')) = false := by simp
      have Hmem := Lib.hid hmem
      clear hmem
      go_wp2_with fail
      refine region_grows (by kernel_rfl) (by kernel_rfl) ?_
      repeat (first
        | (go_big_quiet_want; refine quiet_load_at _ rfl ⟨_, _, _, rfl, ha2, ?_⟩; simp only [Act.put, List.setIfInBounds_toArray, List.set_cons_succ, List.set_cons_zero]; go_big_quiet_on)
        | (go_big_quiet_want; refine quiet_load_mvbox _ rfl ⟨_, _, (f', g', p', d', c'), rfl, hm3, ?_⟩; simp only [Act.put, List.setIfInBounds_toArray, List.set_cons_succ, List.set_cons_zero]; go_big_quiet_on)
        | (go_big_quiet_want; refine quiet_neq_mv _ _ _ rfl ⟨(f', g', p', d', c'), (f', g', p', d', c'), rfl, rfl, ?_⟩; simp only [hxx, Act.put, List.setIfInBounds_toArray, List.set_cons_succ, List.set_cons_zero]; go_big_quiet_on)
        | go_big_quiet_step (fail))
      refine wpQuiet_nil ?_
      intro w4 hg4
      go_wp2_with fail
      have hbw4 := hb3.trans (hg4.below.mono hb3.size)
      clear ha2 hm3 hxx hb3
      go_loopw [8, 9, 10] (fun vk vm vi wr => ∃ (n : Nat) (met : Bool) (k : Nat), n ≤ q ∧ vi = .int .i64 (n : Int) ∧ vm = .bool met ∧ vk = .int .i64 (k : Int) ∧ Hid (O.At1 l (f', g', p', d', c') n met k) ∧ Below w2.heap.size w2 wr) (fun _ _ vi _ => q - (intOf vi).toNat)
      case atStart => exact ⟨0, true, 1, by omega, rfl, rfl, rfl, Lib.hid (.inl ⟨rfl, rfl, Hmem.out, fun j hj => absurd hj (by omega)⟩), hbw4⟩
      case round =>
        obtain ⟨n, met, k, hn, rfl, rfl, rfl, HS, hbr⟩ := hrel
        by_cases hlt : n < q
        · obtain ⟨x, hx⟩ : ∃ m, l[n]? = some m := ⟨_, List.getElem?_eq_getElem (by rw [Hq.out.1]; exact hlt)⟩
          obtain ⟨b, off, e, hbs, ha⟩ := HA1.out wr hbr n _ hx
          subst e
          have hm := HM.out wr hbr
          rw [← HAA.out] at hm
          have HX := Lib.hid hx
          clear hx
          rcases HS.out with ⟨rfl, rfl, hmem, hno⟩ | ⟨rfl, rfl, hrest⟩
          · have Hno := Lib.hid (And.intro hmem hno)
            clear hmem hno
            by_cases hxm : x = (f', g', p', d', c')
            · subst hxm
              have hxx : ((f', g', p', d', c') == (f', g', p', d', c')) = true := by simp
              go_wp2_with fail
              refine region_grows (by kernel_rfl) (by kernel_rfl) ?_
              repeat (first
                | (go_big_quiet_want; refine quiet_load_at _ rfl ⟨_, _, _, rfl, ha, ?_⟩; simp only [Act.put, List.setIfInBounds_toArray, List.set_cons_succ, List.set_cons_zero]; go_big_quiet_on)
                | (go_big_quiet_want; refine quiet_load_mvbox _ rfl ⟨_, _, (f', g', p', d', c'), rfl, hm, ?_⟩; simp only [Act.put, List.setIfInBounds_toArray, List.set_cons_succ, List.set_cons_zero]; go_big_quiet_on)
                | (go_big_quiet_want; refine quiet_eql_mv _ _ _ rfl ⟨(f', g', p', d', c'), (f', g', p', d', c'), rfl, rfl, ?_⟩; simp only [hxx, Act.put, List.setIfInBounds_toArray, List.set_cons_succ, List.set_cons_zero]; go_big_quiet_on)
                | go_big_quiet_step (fail))
              refine wpQuiet_nil ?_
              intro w5 hg5
              go_wp2_with fail
              refine ⟨⟨n + 1, false, n + 1, by omega, by go_num, rfl, by go_num, Lib.hid (.inr ⟨rfl, rfl, fun j hj => O.first_rest l _ n HX.out Hno.out.2 j (by omega)⟩), hbr.trans (hg5.below.mono hbr.size)⟩, by simp [intOf]; omega⟩
            · have hxx : (x == (f', g', p', d', c')) = false := by simpa using hxm
              have hno2 := M.noneTo_succ Hno.out.2 HX.out hxm
              obtain ⟨hf, hl⟩ := O.first_shift l _ x n Hno.out.1 hno2 HX.out
              rw [Hl2.out] at hf
              rw [Hq.out.1] at hl
              obtain ⟨b2, off2, e2, hbs2, ha2⟩ := HA2.out wr hbr (n + 1) _ hf
              cases e2
              have Hno2 := Lib.hid hno2
              clear hno2 hf hxm
              go_wp2_with fail
              refine region_grows (by kernel_rfl) (by kernel_rfl) ?_
              repeat (first
                | (go_big_quiet_want; refine quiet_load_at _ rfl ⟨_, _, _, rfl, ha, ?_⟩; simp only [Act.put, List.setIfInBounds_toArray, List.set_cons_succ, List.set_cons_zero]; go_big_quiet_on)
                | (go_big_quiet_want; refine quiet_load_mvbox _ rfl ⟨_, _, (f', g', p', d', c'), rfl, hm, ?_⟩; simp only [Act.put, List.setIfInBounds_toArray, List.set_cons_succ, List.set_cons_zero]; go_big_quiet_on)
                | (go_big_quiet_want; refine quiet_eql_mv _ _ _ rfl ⟨x, (f', g', p', d', c'), rfl, rfl, ?_⟩; simp only [hxx, Act.put, List.setIfInBounds_toArray, List.set_cons_succ, List.set_cons_zero]; go_big_quiet_on)
                | go_big_quiet_step (fail))
              refine wpQuiet_nil ?_
              intro w5 hg5
              have hb5 := hg5.below
              have hbw := hbr.trans (hb5.mono hbr.size)
              replace ha := ha.below hb5
              replace ha2 := ha2.below hb5
              have hs5 := hb5.size
              have hkk : decide ((q : Int) ≤ (n : Int) + 1) = false := by simp; omega
              have hyy : (x != x) = false := by simp
              clear hxx
              go_wp2_with fail
              refine region_grows (by kernel_rfl) (by kernel_rfl) ?_
              repeat (first
                | (go_big_quiet_want; refine quiet_load_at _ rfl ⟨_, _, _, rfl, ha2, ?_⟩; simp only [Act.put, List.setIfInBounds_toArray, List.set_cons_succ, List.set_cons_zero]; go_big_quiet_on)
                | (go_big_quiet_want; refine quiet_load_at _ rfl ⟨_, _, _, rfl, ha, ?_⟩; simp only [Act.put, List.setIfInBounds_toArray, List.set_cons_succ, List.set_cons_zero]; go_big_quiet_on)
                | (go_big_quiet_want; refine quiet_neq_mv _ _ _ rfl ⟨x, x, rfl, rfl, ?_⟩; simp only [hyy, Act.put, List.setIfInBounds_toArray, List.set_cons_succ, List.set_cons_zero]; go_big_quiet_on)
                | go_big_quiet_step (fail))
              refine wpQuiet_nil ?_
              intro w6 hg6
              go_wp2_with fail
              refine ⟨⟨n + 1, true, n + 1 + 1, by omega, by go_num, rfl, by go_num, Lib.hid (.inl ⟨rfl, rfl, Hno.out.1, Hno2.out⟩), hbw.trans (hg6.below.mono hbw.size)⟩, by simp [intOf]; omega⟩
          · have Hrest := Lib.hid hrest
            clear hrest
            have hf : (O.first l (f', g', p', d', c'))[k]? = some x := by rw [Hrest.out k (Nat.le_refl _), HX.out]
            rw [Hl2.out] at hf
            obtain ⟨b2, off2, e2, hbs2, ha2⟩ := HA2.out wr hbr k _ hf
            cases e2
            clear hf
            have hkk : decide ((q : Int) ≤ (k : Int)) = false := by simp; omega
            have hkk2 : decide (q ≤ k) = false := by simp; omega
            have hyy : (x != x) = false := by simp
            go_wp2_with fail
            refine region_grows (by kernel_rfl) (by kernel_rfl) ?_
            repeat (first
              | go_big_quiet_step (fail))
            refine wpQuiet_nil ?_
            intro w5 hg5
            have hb5 := hg5.below
            have hbw := hbr.trans (hb5.mono hbr.size)
            replace ha := ha.below hb5
            replace ha2 := ha2.below hb5
            have hs5 := hb5.size
            go_wp2_with fail
            refine region_grows (by kernel_rfl) (by kernel_rfl) ?_
            repeat (first
              | (go_big_quiet_want; refine quiet_load_at _ rfl ⟨_, _, _, rfl, ha2, ?_⟩; simp only [Act.put, List.setIfInBounds_toArray, List.set_cons_succ, List.set_cons_zero]; go_big_quiet_on)
              | (go_big_quiet_want; refine quiet_load_at _ rfl ⟨_, _, _, rfl, ha, ?_⟩; simp only [Act.put, List.setIfInBounds_toArray, List.set_cons_succ, List.set_cons_zero]; go_big_quiet_on)
              | (go_big_quiet_want; refine quiet_neq_mv _ _ _ rfl ⟨x, x, rfl, rfl, ?_⟩; simp only [hyy, Act.put, List.setIfInBounds_toArray, List.set_cons_succ, List.set_cons_zero]; go_big_quiet_on)
              | go_big_quiet_step (fail))
            refine wpQuiet_nil ?_
            intro w6 hg6
            go_wp2_with fail
            refine ⟨⟨k + 1, false, k + 1, by omega, by go_num, rfl, by go_num, Lib.hid (.inr ⟨rfl, rfl, fun j hj => Hrest.out j (by omega)⟩), hbw.trans (hg6.below.mono hbw.size)⟩, by simp [intOf]; omega⟩
        · obtain rfl : q = n := by omega
          go_wp2_with fail
          go_ret
          exact ⟨rfl, below_next HB.out hbr⟩
    · have hkI : ¬ (0 : Int) < (kc : Int) := by omega
      have hnm : (f', g', p', d', c') ∉ l := fun h => by have := List.count_pos_iff.2 h; rw [Hkc.out] at this; omega
      have Hnm := Lib.hid (show O.first l (f', g', p', d', c') = l by unfold O.first; rw [if_neg hnm])
      clear hnm
      go_wp2_with fail
      go_loopw [8, 9, 10] (fun vk vm vi wr => ∃ (n : Nat) (met : Bool) (k : Nat), n ≤ q ∧ vi = .int .i64 (n : Int) ∧ vm = .bool met ∧ vk = .int .i64 (k : Int) ∧ Hid (O.At1 l (f', g', p', d', c') n met k) ∧ Below w2.heap.size w2 wr) (fun _ _ vi _ => q - (intOf vi).toNat)
      case atStart => exact ⟨0, false, 0, by omega, rfl, rfl, rfl, Lib.hid (.inr ⟨rfl, rfl, fun j _ => by rw [Hnm.out]⟩), hb3⟩
      case round =>
        obtain ⟨n, met, k, hn, rfl, rfl, rfl, HS, hbr⟩ := hrel
        by_cases hlt : n < q
        · obtain ⟨x, hx⟩ : ∃ m, l[n]? = some m := ⟨_, List.getElem?_eq_getElem (by rw [Hq.out.1]; exact hlt)⟩
          obtain ⟨b, off, e, hbs, ha⟩ := HA1.out wr hbr n _ hx
          subst e
          have hm := HM.out wr hbr
          rw [← HAA.out] at hm
          have HX := Lib.hid hx
          clear hx
          rcases HS.out with ⟨rfl, rfl, hmem, hno⟩ | ⟨rfl, rfl, hrest⟩
          · have Hno := Lib.hid (And.intro hmem hno)
            clear hmem hno
            by_cases hxm : x = (f', g', p', d', c')
            · subst hxm
              have hxx : ((f', g', p', d', c') == (f', g', p', d', c')) = true := by simp
              go_wp2_with fail
              refine region_grows (by kernel_rfl) (by kernel_rfl) ?_
              repeat (first
                | (go_big_quiet_want; refine quiet_load_at _ rfl ⟨_, _, _, rfl, ha, ?_⟩; simp only [Act.put, List.setIfInBounds_toArray, List.set_cons_succ, List.set_cons_zero]; go_big_quiet_on)
                | (go_big_quiet_want; refine quiet_load_mvbox _ rfl ⟨_, _, (f', g', p', d', c'), rfl, hm, ?_⟩; simp only [Act.put, List.setIfInBounds_toArray, List.set_cons_succ, List.set_cons_zero]; go_big_quiet_on)
                | (go_big_quiet_want; refine quiet_eql_mv _ _ _ rfl ⟨(f', g', p', d', c'), (f', g', p', d', c'), rfl, rfl, ?_⟩; simp only [hxx, Act.put, List.setIfInBounds_toArray, List.set_cons_succ, List.set_cons_zero]; go_big_quiet_on)
                | go_big_quiet_step (fail))
              refine wpQuiet_nil ?_
              intro w5 hg5
              go_wp2_with fail
              refine ⟨⟨n + 1, false, n + 1, by omega, by go_num, rfl, by go_num, Lib.hid (.inr ⟨rfl, rfl, fun j hj => O.first_rest l _ n HX.out Hno.out.2 j (by omega)⟩), hbr.trans (hg5.below.mono hbr.size)⟩, by simp [intOf]; omega⟩
            · have hxx : (x == (f', g', p', d', c')) = false := by simpa using hxm
              have hno2 := M.noneTo_succ Hno.out.2 HX.out hxm
              obtain ⟨hf, hl⟩ := O.first_shift l _ x n Hno.out.1 hno2 HX.out
              rw [Hl2.out] at hf
              rw [Hq.out.1] at hl
              obtain ⟨b2, off2, e2, hbs2, ha2⟩ := HA2.out wr hbr (n + 1) _ hf
              cases e2
              have Hno2 := Lib.hid hno2
              clear hno2 hf hxm
              go_wp2_with fail
              refine region_grows (by kernel_rfl) (by kernel_rfl) ?_
              repeat (first
                | (go_big_quiet_want; refine quiet_load_at _ rfl ⟨_, _, _, rfl, ha, ?_⟩; simp only [Act.put, List.setIfInBounds_toArray, List.set_cons_succ, List.set_cons_zero]; go_big_quiet_on)
                | (go_big_quiet_want; refine quiet_load_mvbox _ rfl ⟨_, _, (f', g', p', d', c'), rfl, hm, ?_⟩; simp only [Act.put, List.setIfInBounds_toArray, List.set_cons_succ, List.set_cons_zero]; go_big_quiet_on)
                | (go_big_quiet_want; refine quiet_eql_mv _ _ _ rfl ⟨x, (f', g', p', d', c'), rfl, rfl, ?_⟩; simp only [hxx, Act.put, List.setIfInBounds_toArray, List.set_cons_succ, List.set_cons_zero]; go_big_quiet_on)
                | go_big_quiet_step (fail))
              refine wpQuiet_nil ?_
              intro w5 hg5
              have hb5 := hg5.below
              have hbw := hbr.trans (hb5.mono hbr.size)
              replace ha := ha.below hb5
              replace ha2 := ha2.below hb5
              have hs5 := hb5.size
              have hkk : decide ((q : Int) ≤ (n : Int) + 1) = false := by simp; omega
              have hyy : (x != x) = false := by simp
              clear hxx
              go_wp2_with fail
              refine region_grows (by kernel_rfl) (by kernel_rfl) ?_
              repeat (first
                | (go_big_quiet_want; refine quiet_load_at _ rfl ⟨_, _, _, rfl, ha2, ?_⟩; simp only [Act.put, List.setIfInBounds_toArray, List.set_cons_succ, List.set_cons_zero]; go_big_quiet_on)
                | (go_big_quiet_want; refine quiet_load_at _ rfl ⟨_, _, _, rfl, ha, ?_⟩; simp only [Act.put, List.setIfInBounds_toArray, List.set_cons_succ, List.set_cons_zero]; go_big_quiet_on)
                | (go_big_quiet_want; refine quiet_neq_mv _ _ _ rfl ⟨x, x, rfl, rfl, ?_⟩; simp only [hyy, Act.put, List.setIfInBounds_toArray, List.set_cons_succ, List.set_cons_zero]; go_big_quiet_on)
                | go_big_quiet_step (fail))
              refine wpQuiet_nil ?_
              intro w6 hg6
              go_wp2_with fail
              refine ⟨⟨n + 1, true, n + 1 + 1, by omega, by go_num, rfl, by go_num, Lib.hid (.inl ⟨rfl, rfl, Hno.out.1, Hno2.out⟩), hbw.trans (hg6.below.mono hbw.size)⟩, by simp [intOf]; omega⟩
          · have Hrest := Lib.hid hrest
            clear hrest
            have hf : (O.first l (f', g', p', d', c'))[k]? = some x := by rw [Hrest.out k (Nat.le_refl _), HX.out]
            rw [Hl2.out] at hf
            obtain ⟨b2, off2, e2, hbs2, ha2⟩ := HA2.out wr hbr k _ hf
            cases e2
            clear hf
            have hkk : decide ((q : Int) ≤ (k : Int)) = false := by simp; omega
            have hkk2 : decide (q ≤ k) = false := by simp; omega
            have hyy : (x != x) = false := by simp
            go_wp2_with fail
            refine region_grows (by kernel_rfl) (by kernel_rfl) ?_
            repeat (first
              | go_big_quiet_step (fail))
            refine wpQuiet_nil ?_
            intro w5 hg5
            have hb5 := hg5.below
            have hbw := hbr.trans (hb5.mono hbr.size)
            replace ha := ha.below hb5
            replace ha2 := ha2.below hb5
            have hs5 := hb5.size
            go_wp2_with fail
            refine region_grows (by kernel_rfl) (by kernel_rfl) ?_
            repeat (first
              | (go_big_quiet_want; refine quiet_load_at _ rfl ⟨_, _, _, rfl, ha2, ?_⟩; simp only [Act.put, List.setIfInBounds_toArray, List.set_cons_succ, List.set_cons_zero]; go_big_quiet_on)
              | (go_big_quiet_want; refine quiet_load_at _ rfl ⟨_, _, _, rfl, ha, ?_⟩; simp only [Act.put, List.setIfInBounds_toArray, List.set_cons_succ, List.set_cons_zero]; go_big_quiet_on)
              | (go_big_quiet_want; refine quiet_neq_mv _ _ _ rfl ⟨x, x, rfl, rfl, ?_⟩; simp only [hyy, Act.put, List.setIfInBounds_toArray, List.set_cons_succ, List.set_cons_zero]; go_big_quiet_on)
              | go_big_quiet_step (fail))
            refine wpQuiet_nil ?_
            intro w6 hg6
            go_wp2_with fail
            refine ⟨⟨k + 1, false, k + 1, by omega, by go_num, rfl, by go_num, Lib.hid (.inr ⟨rfl, rfl, fun j hj => Hrest.out j (by omega)⟩), hbw.trans (hg6.below.mono hbw.size)⟩, by simp [intOf]; omega⟩
        · obtain rfl : q = n := by omega
          go_wp2_with fail
          go_ret
          exact ⟨rfl, below_next HB.out hbr⟩

end Go.Proofs.Ytdcmjbebkmicaaa
