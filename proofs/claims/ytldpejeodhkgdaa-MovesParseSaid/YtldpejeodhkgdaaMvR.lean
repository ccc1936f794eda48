/- The document's castlings: Castling. -/
import Derived.Test.YtldpejeodhkgdaaMvQ
import Derived.Test.YtldpejeodhkgdaaMvK
namespace Go.Proofs.Ytldpejeodhkgdaa
open Go.RowKit Go.Sort
attribute [local go_sem] Oper.semAt_some

namespace N
theorem cas_king {c : Nat → Int} {f g : Nat} {s : ByteArray} (h : IsCas c f g s) : c (1 + f) = P.make (c 78) 6 := by
  rcases h.2.2.2 with ⟨_, h, _⟩ | ⟨_, k, _, ho, h1, _⟩
  · exact (king_iff c f).1 h
  · unfold sideOk at ho
    simp only [Bool.and_eq_true] at ho
    rw [h1]
    exact (king_iff c _).1 ho.1
def NoneTo (c : Nat → Int) (s : ByteArray) (a : Nat) : Prop := ∀ x y, x < a → ¬ IsCas c x y s
def NoneIn (c : Nat → Int) (s : ByteArray) (a b : Nat) : Prop := ∀ y, y < b → ¬ IsCas c a y s
theorem noneTo_all {c : Nat → Int} {s : ByteArray} (h : NoneTo c s 64) : RookR c s 0 0 false := .inr ⟨rfl, fun a b e => h a b e.1 e⟩
theorem noneTo_succ {c : Nat → Int} {s : ByteArray} {a : Nat} (h : NoneTo c s a) (h1 : ∀ y, ¬ IsCas c a y s) : NoneTo c s (a + 1) := fun x y hx e => by
  by_cases hxa : x = a
  · subst hxa; exact h1 y e
  · exact h x y (by omega) e
theorem noneIn_succ {c : Nat → Int} {s : ByteArray} {a b : Nat} (h : NoneIn c s a b) (h1 : ¬ IsCas c a b s) : NoneIn c s a (b + 1) := fun y hy e => by
  by_cases hyb : y = b
  · subst hyb; exact h1 e
  · exact h y (by omega) e
theorem noneIn_all {c : Nat → Int} {s : ByteArray} {a : Nat} (h : NoneIn c s a 64) : ∀ y, ¬ IsCas c a y s := fun y e => h y e.2.1 e
theorem empty_list (T : ByteArray) : T.toList.isEmpty = true ↔ T = ⟨#[]⟩ := by
  rw [← empty_toList]
  have e : (⟨#[]⟩ : ByteArray).toList = [] := by rw [Lib.toList_data]
  rw [e]
  cases T.toList <;> simp
theorem hit11 {c : Nat → Int} {s : ByteArray} {a b : Nat} (hk : known c) (ha : a < 64) (hb : b < 64) (hne : a ≠ b) :
    ((cas c a b).toList.isEmpty = false ∧ ((cas c a b).toList == s.toList) = true) ↔ IsCas c a b s := by
  rw [toList_iff, ← Bool.not_eq_true, empty_list]
  rcases cas_end hk ha hb hne with h | ⟨h, hn⟩
  · constructor
    · rintro ⟨_, rfl⟩
      exact h
    · intro h'
      have e := cas_fun h h'
      refine ⟨fun e2 => ?_, e⟩
      obtain ⟨x, y, _, _, e3⟩ := cas_two hk.2 h
      rw [e3] at e2
      exact absurd (list_of e2) (by simp)
  · exact ⟨fun h' => absurd h h'.1, fun h' => absurd h' (hn _)⟩
theorem rookR_one {c : Nat → Int} {s : ByteArray} {f g f' g' : Int} {ok ok' : Bool} (h78 : 0 ≤ c 78 ∧ c 78 ≤ 1) (h : RookR c s f g ok) (h' : RookR c s f' g' ok') : ok = ok' ∧ (ok = true → f = f' ∧ g = g') := by
  rcases h with ⟨rfl, a, b, rfl, rfl, h⟩ | ⟨rfl, h⟩
  · rcases h' with ⟨rfl, a', b', rfl, rfl, h'⟩ | ⟨rfl, h'⟩
    · obtain ⟨rfl, rfl⟩ := cas_one h78 h h'
      exact ⟨rfl, fun _ => ⟨rfl, rfl⟩⟩
    · exact absurd h (h' _ _)
  · rcases h' with ⟨rfl, a', b', rfl, rfl, h'⟩ | ⟨rfl, h'⟩
    · exact absurd h' (h _ _)
    · exact ⟨rfl, nofun⟩
end N

set_option maxRecDepth 100000 in
set_option maxHeartbeats 4000000 in
theorem d11castling_0 (c : Nat → Int) (s : ByteArray) (w : World) (hc : PosOk c) (hk : N.known c) (ht : c 78 = 0) :
    Calls Try.prog 13 #[.agg (posC c), .string s] w fun e w' => (∃ (f g : Int) (z ok : Bool), e = .returned (.tuple #[.agg (movC f g 0 0 z), .bool ok]) ∧ N.RookR c s f g ok ∧ (ok = true → z = true) ∧ (ok = false → f = 0 ∧ g = 0 ∧ z = false)) ∧ Below w.heap.size w w' := by
  have h0 : MvRes w w.heap.size c ((w.alloc (.cells (posC c) 31)).alloc (.cells #[.int .i8 0, .int .i8 0, .int .u8 0, .int .u8 0, .bool false] 33)) :=
    ⟨(PosAt.new w c).alloc _, by have := RowAt.new (w.alloc (.cells (posC c) 31)) #[.int .i8 0, .int .i8 0, .int .u8 0, .int .u8 0, .bool false] 33; rwa [World.size_alloc] at this, ((Below.refl _ _).alloc (Nat.le_refl _) _).alloc (by simp) _⟩
  have H0 := Lib.hid h0
  have H6 : Hid (∀ W, Calls Try.prog 24 #[.int .u8 0, .int .u8 6] W fun e w' => e = .returned (.int .u8 6) ∧ Below W.heap.size W w') := Lib.hid (fun W => r5make_walk 0 6 W (by decide) (by decide))
  have HCas := Lib.hid (fun (a b : Nat) (ha : a < 64) (hb : b < 64) (hne : a ≠ b) W => d11castles_any c a b W hc hk ha hb hne)
  have HHit := Lib.hid (fun (a b : Nat) (ha : a < 64) (hb : b < 64) (hne : a ≠ b) => N.hit11 (c := c) (s := s) hk ha hb hne)
  have HKing := Lib.hid (fun (a y : Nat) (h : N.IsCas c a y s) => (show c (1 + a) = 6 by have := N.cas_king h; rwa [ht] at this))
  clear h0 hc hk
  go_enter Try.func13, Try.ntmps13
  go_wp2
  go_loopw [6] (fun i wr => ∃ a : Nat, a ≤ 64 ∧ i = .int .i8 (a : Int) ∧ N.NoneTo c s a ∧ MvRes w w.heap.size c wr) (fun i _ => 64 - (intOf i).toNat)
  case atStart => exact ⟨0, Nat.zero_le _, rfl, fun x y hx => by omega, H0.out⟩
  case round =>
    obtain ⟨a, ha, rfl, hno, hR⟩ := hrel
    by_cases hlt : a < 64
    · have w8 : IntKind.i8.wrap ((a : Int) + 1) = (a : Int) + 1 := by unfold IntKind.wrap; simp only [IntKind.bits, IntKind.signed]; simp; omega
      have hp := hR.p
      have c78 := hp.cell (i := 78) (by decide)
      have bf := hp.bd hlt
      have lp := hp.lt
      rw [show pk 78 = .u8 from rfl, ht] at c78
      have H1 := Lib.hid hR
      have HO := Lib.hid hno
      clear hp hR hno
      go_upto_region 4 with fail
      refine region_below (by kernel_rfl) (by kernel_rfl) ?_
      try simp only [Act.put]
      repeat (go_big_quiet_step (first | (go_at_call 24; (with_reducible exact quiet_below (H6.out _)))))
      refine wpQuiet_nil ?_
      intro w2 hb
      have H2 := Lib.hid (H1.out.next hb)
      clear hb c78 bf lp
      by_cases hA : c (1 + a) = 6
      · have kA : (c (1 + a) != 6) = false := by simpa using hA
        clear hA
        go_wp2
        rw [show decide ((a : Int) < 64) = true by simp; omega]
        try rw [kA]
        go_loopw [7] (fun i wr => ∃ b : Nat, b ≤ 64 ∧ i = .int .i8 (b : Int) ∧ N.NoneIn c s a b ∧ MvRes w w.heap.size c wr) (fun i _ => 64 - (intOf i).toNat)
        case atStart => exact ⟨0, Nat.zero_le _, rfl, fun y hy => by omega, H2.out⟩
        case round =>
          obtain ⟨b, hb, rfl, hin, hR⟩ := hrel
          by_cases hlb : b < 64
          · have w9 : IntKind.i8.wrap ((b : Int) + 1) = (b : Int) + 1 := by unfold IntKind.wrap; simp only [IntKind.bits, IntKind.signed]; simp; omega
            have HI := Lib.hid hin
            have HR := Lib.hid hR
            clear hin hR hb
            by_cases hne : a = b
            · have nab : ((a : Int) != (b : Int)) = false := by simp; omega
              have HN := Lib.hid (show ¬ N.IsCas c a b s from fun e => e.2.2.1 hne)
              clear hne
              go_wp2_with (first
                | ((with_reducible refine wp_store_row' rfl 33 _ _ rfl ?_); refine ⟨w.heap.size + 1, 33, movC a b 0 0 true, rfl, rfl, ⟨_, H5.out.1.res.heap, (by kernel_rfl)⟩, Try.info_mvB _ _ _ _ _, Try.one_mvB _ _ _ _ _, ?_⟩; intro W9 hP9 hq9; have HB := Lib.hid (hP9.below H5.out.1.below (Nat.le_succ _)))
                | ((with_reducible refine wp_store_row' rfl 33 _ _ rfl ?_); refine ⟨wr.heap.size, 33, movC a b 0 0 true, rfl, rfl, ⟨_, heap_alloc_new _ _, (by kernel_rfl)⟩, Try.info_mvB _ _ _ _ _, Try.one_mvB _ _ _ _ _, ?_⟩; intro W3 hP hq; have H3 := Lib.hid (And.intro ((HR.out.next ((Below.refl _ _).alloc (Nat.le_refl _) _)).other hP HR.out.res.lt) (And.intro hq HR.out.res.lt)); clear hP hq)
                | ((with_reducible refine wp_load_box_g rfl _ rfl ?_); refine ⟨_, c, rfl, H4.out.1.p, ?_⟩)
                | ((with_reducible refine wp_load_box_g rfl _ rfl ?_); refine ⟨_, c, rfl, H3.out.1.p, ?_⟩)
                | ((with_reducible refine mv_load_rowG rfl 33 _ rfl Try.underlying33 rfl ?_); refine ⟨_, _, _, rfl, H5.out.2.1, Try.info_mvB _ _ _ _ _, ?_⟩)
                | ((with_reducible refine mv_load_rowG rfl 33 _ rfl Try.underlying33 rfl ?_); refine ⟨_, _, _, rfl, H4.out.2.1, Try.info_mvB _ _ _ _ _, ?_⟩)
                | ((with_reducible refine mv_load_rowG rfl 33 _ rfl Try.underlying33 rfl ?_); refine ⟨_, _, _, rfl, H3.out.2.1, Try.info_mvB _ _ _ _ _, ?_⟩)
                | (go_at_call 25; (with_reducible refine (HC.out _).mono ?_); rintro e w5 ⟨rfl, hb5⟩; have H5 := Lib.hid (And.intro (H4.out.1.next hb5) (And.intro (H4.out.2.1.below hb5) H4.out.2.2)); clear hb5)
                | (go_at_call 25; (with_reducible refine (HC.out _).mono ?_); rintro e w4 ⟨rfl, hb4⟩; have H4 := Lib.hid (And.intro (H3.out.1.next hb4) (And.intro (H3.out.2.1.below hb4) H3.out.2.2)); clear hb4))
              go_roundw
              case rel => exact ⟨b + 1, by omega, by go_num, N.noneIn_succ HI.out HN.out, H3.out.1⟩
              case measure => simp [intOf]; omega
            · have nab : ((a : Int) != (b : Int)) = true := by simp; omega
              have HC := Lib.hid (fun W => HCas.out a b hlt hlb hne W)
              have hh := HHit.out a b hlt hlb hne
              obtain ⟨T, hT⟩ : ∃ T, N.cas c a b = T := ⟨_, rfl⟩
              rw [hT] at HC hh
              clear hT
              cases e1 : T.toList.isEmpty
              · cases e2 : (T.toList == s.toList)
                · have HN := Lib.hid (show ¬ N.IsCas c a b s from fun e => by have := (hh.2 e).2; rw [e2] at this; cases this)
                  clear hh
                  go_wp2_with (first
                    | ((with_reducible refine wp_store_row' rfl 33 _ _ rfl ?_); refine ⟨w.heap.size + 1, 33, movC a b 0 0 true, rfl, rfl, ⟨_, H5.out.1.res.heap, (by kernel_rfl)⟩, Try.info_mvB _ _ _ _ _, Try.one_mvB _ _ _ _ _, ?_⟩; intro W9 hP9 hq9; have HB := Lib.hid (hP9.below H5.out.1.below (Nat.le_succ _)))
                    | ((with_reducible refine wp_store_row' rfl 33 _ _ rfl ?_); refine ⟨wr.heap.size, 33, movC a b 0 0 true, rfl, rfl, ⟨_, heap_alloc_new _ _, (by kernel_rfl)⟩, Try.info_mvB _ _ _ _ _, Try.one_mvB _ _ _ _ _, ?_⟩; intro W3 hP hq; have H3 := Lib.hid (And.intro ((HR.out.next ((Below.refl _ _).alloc (Nat.le_refl _) _)).other hP HR.out.res.lt) (And.intro hq HR.out.res.lt)); clear hP hq)
                    | ((with_reducible refine wp_load_box_g rfl _ rfl ?_); refine ⟨_, c, rfl, H4.out.1.p, ?_⟩)
                    | ((with_reducible refine wp_load_box_g rfl _ rfl ?_); refine ⟨_, c, rfl, H3.out.1.p, ?_⟩)
                    | ((with_reducible refine mv_load_rowG rfl 33 _ rfl Try.underlying33 rfl ?_); refine ⟨_, _, _, rfl, H5.out.2.1, Try.info_mvB _ _ _ _ _, ?_⟩)
                    | ((with_reducible refine mv_load_rowG rfl 33 _ rfl Try.underlying33 rfl ?_); refine ⟨_, _, _, rfl, H4.out.2.1, Try.info_mvB _ _ _ _ _, ?_⟩)
                    | ((with_reducible refine mv_load_rowG rfl 33 _ rfl Try.underlying33 rfl ?_); refine ⟨_, _, _, rfl, H3.out.2.1, Try.info_mvB _ _ _ _ _, ?_⟩)
                    | (go_at_call 25; (with_reducible refine (HC.out _).mono ?_); rintro e w5 ⟨rfl, hb5⟩; have H5 := Lib.hid (And.intro (H4.out.1.next hb5) (And.intro (H4.out.2.1.below hb5) H4.out.2.2)); clear hb5)
                    | (go_at_call 25; (with_reducible refine (HC.out _).mono ?_); rintro e w4 ⟨rfl, hb4⟩; have H4 := Lib.hid (And.intro (H3.out.1.next hb4) (And.intro (H3.out.2.1.below hb4) H3.out.2.2)); clear hb4))
                  go_roundw
                  case rel => exact ⟨b + 1, by omega, by go_num, N.noneIn_succ HI.out HN.out, H5.out.1⟩
                  case measure => simp [intOf]; omega
                · have HY := Lib.hid (hh.1 ⟨e1, e2⟩)
                  clear hh
                  go_wp2_with (first
                    | ((with_reducible refine wp_store_row' rfl 33 _ _ rfl ?_); refine ⟨w.heap.size + 1, 33, movC a b 0 0 true, rfl, rfl, ⟨_, H5.out.1.res.heap, (by kernel_rfl)⟩, Try.info_mvB _ _ _ _ _, Try.one_mvB _ _ _ _ _, ?_⟩; intro W9 hP9 hq9; have HB := Lib.hid (hP9.below H5.out.1.below (Nat.le_succ _)))
                    | ((with_reducible refine wp_store_row' rfl 33 _ _ rfl ?_); refine ⟨wr.heap.size, 33, movC a b 0 0 true, rfl, rfl, ⟨_, heap_alloc_new _ _, (by kernel_rfl)⟩, Try.info_mvB _ _ _ _ _, Try.one_mvB _ _ _ _ _, ?_⟩; intro W3 hP hq; have H3 := Lib.hid (And.intro ((HR.out.next ((Below.refl _ _).alloc (Nat.le_refl _) _)).other hP HR.out.res.lt) (And.intro hq HR.out.res.lt)); clear hP hq)
                    | ((with_reducible refine wp_load_box_g rfl _ rfl ?_); refine ⟨_, c, rfl, H4.out.1.p, ?_⟩)
                    | ((with_reducible refine wp_load_box_g rfl _ rfl ?_); refine ⟨_, c, rfl, H3.out.1.p, ?_⟩)
                    | ((with_reducible refine mv_load_rowG rfl 33 _ rfl Try.underlying33 rfl ?_); refine ⟨_, _, _, rfl, H5.out.2.1, Try.info_mvB _ _ _ _ _, ?_⟩)
                    | ((with_reducible refine mv_load_rowG rfl 33 _ rfl Try.underlying33 rfl ?_); refine ⟨_, _, _, rfl, H4.out.2.1, Try.info_mvB _ _ _ _ _, ?_⟩)
                    | ((with_reducible refine mv_load_rowG rfl 33 _ rfl Try.underlying33 rfl ?_); refine ⟨_, _, _, rfl, H3.out.2.1, Try.info_mvB _ _ _ _ _, ?_⟩)
                    | (go_at_call 25; (with_reducible refine (HC.out _).mono ?_); rintro e w5 ⟨rfl, hb5⟩; have H5 := Lib.hid (And.intro (H4.out.1.next hb5) (And.intro (H4.out.2.1.below hb5) H4.out.2.2)); clear hb5)
                    | (go_at_call 25; (with_reducible refine (HC.out _).mono ?_); rintro e w4 ⟨rfl, hb4⟩; have H4 := Lib.hid (And.intro (H3.out.1.next hb4) (And.intro (H3.out.2.1.below hb4) H3.out.2.2)); clear hb4))
                  exact bodyPost_ret (results_mv_tmp Try.results13 _ _ (w.heap.size + 1) 33 _ (0, 0) _ rfl hq9.heap Try.underlying33 rfl (Try.info_mvB _ _ _ _ _)) rfl ⟨⟨_, _, _, _, rfl, .inl ⟨rfl, a, b, rfl, rfl, HY.out⟩, fun _ => rfl, nofun⟩, HB.out⟩
              · have HN := Lib.hid (show ¬ N.IsCas c a b s from fun e => by have := (hh.2 e).1; rw [e1] at this; cases this)
                clear hh
                go_wp2_with (first
                  | ((with_reducible refine wp_store_row' rfl 33 _ _ rfl ?_); refine ⟨w.heap.size + 1, 33, movC a b 0 0 true, rfl, rfl, ⟨_, H5.out.1.res.heap, (by kernel_rfl)⟩, Try.info_mvB _ _ _ _ _, Try.one_mvB _ _ _ _ _, ?_⟩; intro W9 hP9 hq9; have HB := Lib.hid (hP9.below H5.out.1.below (Nat.le_succ _)))
                  | ((with_reducible refine wp_store_row' rfl 33 _ _ rfl ?_); refine ⟨wr.heap.size, 33, movC a b 0 0 true, rfl, rfl, ⟨_, heap_alloc_new _ _, (by kernel_rfl)⟩, Try.info_mvB _ _ _ _ _, Try.one_mvB _ _ _ _ _, ?_⟩; intro W3 hP hq; have H3 := Lib.hid (And.intro ((HR.out.next ((Below.refl _ _).alloc (Nat.le_refl _) _)).other hP HR.out.res.lt) (And.intro hq HR.out.res.lt)); clear hP hq)
                  | ((with_reducible refine wp_load_box_g rfl _ rfl ?_); refine ⟨_, c, rfl, H4.out.1.p, ?_⟩)
                  | ((with_reducible refine wp_load_box_g rfl _ rfl ?_); refine ⟨_, c, rfl, H3.out.1.p, ?_⟩)
                  | ((with_reducible refine mv_load_rowG rfl 33 _ rfl Try.underlying33 rfl ?_); refine ⟨_, _, _, rfl, H5.out.2.1, Try.info_mvB _ _ _ _ _, ?_⟩)
                  | ((with_reducible refine mv_load_rowG rfl 33 _ rfl Try.underlying33 rfl ?_); refine ⟨_, _, _, rfl, H4.out.2.1, Try.info_mvB _ _ _ _ _, ?_⟩)
                  | ((with_reducible refine mv_load_rowG rfl 33 _ rfl Try.underlying33 rfl ?_); refine ⟨_, _, _, rfl, H3.out.2.1, Try.info_mvB _ _ _ _ _, ?_⟩)
                  | (go_at_call 25; (with_reducible refine (HC.out _).mono ?_); rintro e w5 ⟨rfl, hb5⟩; have H5 := Lib.hid (And.intro (H4.out.1.next hb5) (And.intro (H4.out.2.1.below hb5) H4.out.2.2)); clear hb5)
                  | (go_at_call 25; (with_reducible refine (HC.out _).mono ?_); rintro e w4 ⟨rfl, hb4⟩; have H4 := Lib.hid (And.intro (H3.out.1.next hb4) (And.intro (H3.out.2.1.below hb4) H3.out.2.2)); clear hb4))
                go_roundw
                case rel => exact ⟨b + 1, by omega, by go_num, N.noneIn_succ HI.out HN.out, H4.out.1⟩
                case measure => simp [intOf]; omega
          · obtain rfl : b = 64 := by omega
            have HN := Lib.hid (N.noneTo_succ HO.out (N.noneIn_all hin))
            clear hin hb
            go_wp2
            go_roundw
            case rel => exact ⟨a + 1, by omega, by go_num, HN.out, hR⟩
            case measure => simp [intOf]; omega
      · have kA : (c (1 + a) != 6) = true := by simpa using hA
        have HN := Lib.hid (N.noneTo_succ HO.out (fun y e => hA (HKing.out a y e)))
        clear hA
        go_wp2
        go_roundw
        case rel => exact ⟨a + 1, by omega, by go_num, HN.out, H2.out⟩
        case measure => simp [intOf]; omega
    · obtain rfl : a = 64 := by omega
      have HN := Lib.hid (N.noneTo_all hno)
      have HR := Lib.hid hR
      clear hno ha
      go_wp2_with ((with_reducible refine wp_store_row' rfl 33 _ _ rfl ?_); refine ⟨w.heap.size + 1, 33, movC 0 0 0 0 false, rfl, rfl, ⟨_, HR.out.res.heap, (by kernel_rfl)⟩, Try.info_mvB _ _ _ _ _, Try.one_mvB _ _ _ _ _, ?_⟩; intro W9 hP9 hq9; have HB := Lib.hid (hP9.below HR.out.below (Nat.le_succ _)))
      exact bodyPost_ret (results_mv_tmp Try.results13 _ _ (w.heap.size + 1) 33 _ (0, 0) _ rfl hq9.heap Try.underlying33 rfl (Try.info_mvB _ _ _ _ _)) rfl ⟨⟨_, _, _, _, rfl, HN.out, nofun, fun _ => ⟨rfl, rfl, rfl⟩⟩, HB.out⟩

set_option maxRecDepth 100000 in
set_option maxHeartbeats 4000000 in
theorem d11castling_1 (c : Nat → Int) (s : ByteArray) (w : World) (hc : PosOk c) (hk : N.known c) (ht : c 78 = 1) :
    Calls Try.prog 13 #[.agg (posC c), .string s] w fun e w' => (∃ (f g : Int) (z ok : Bool), e = .returned (.tuple #[.agg (movC f g 0 0 z), .bool ok]) ∧ N.RookR c s f g ok ∧ (ok = true → z = true) ∧ (ok = false → f = 0 ∧ g = 0 ∧ z = false)) ∧ Below w.heap.size w w' := by
  have h0 : MvRes w w.heap.size c ((w.alloc (.cells (posC c) 31)).alloc (.cells #[.int .i8 0, .int .i8 0, .int .u8 0, .int .u8 0, .bool false] 33)) :=
    ⟨(PosAt.new w c).alloc _, by have := RowAt.new (w.alloc (.cells (posC c) 31)) #[.int .i8 0, .int .i8 0, .int .u8 0, .int .u8 0, .bool false] 33; rwa [World.size_alloc] at this, ((Below.refl _ _).alloc (Nat.le_refl _) _).alloc (by simp) _⟩
  have H0 := Lib.hid h0
  have H6 : Hid (∀ W, Calls Try.prog 24 #[.int .u8 1, .int .u8 6] W fun e w' => e = .returned (.int .u8 14) ∧ Below W.heap.size W w') := Lib.hid (fun W => r5make_walk 1 6 W (by decide) (by decide))
  have HCas := Lib.hid (fun (a b : Nat) (ha : a < 64) (hb : b < 64) (hne : a ≠ b) W => d11castles_any c a b W hc hk ha hb hne)
  have HHit := Lib.hid (fun (a b : Nat) (ha : a < 64) (hb : b < 64) (hne : a ≠ b) => N.hit11 (c := c) (s := s) hk ha hb hne)
  have HKing := Lib.hid (fun (a y : Nat) (h : N.IsCas c a y s) => (show c (1 + a) = 14 by have := N.cas_king h; rwa [ht] at this))
  clear h0 hc hk
  go_enter Try.func13, Try.ntmps13
  go_wp2
  go_loopw [6] (fun i wr => ∃ a : Nat, a ≤ 64 ∧ i = .int .i8 (a : Int) ∧ N.NoneTo c s a ∧ MvRes w w.heap.size c wr) (fun i _ => 64 - (intOf i).toNat)
  case atStart => exact ⟨0, Nat.zero_le _, rfl, fun x y hx => by omega, H0.out⟩
  case round =>
    obtain ⟨a, ha, rfl, hno, hR⟩ := hrel
    by_cases hlt : a < 64
    · have w8 : IntKind.i8.wrap ((a : Int) + 1) = (a : Int) + 1 := by unfold IntKind.wrap; simp only [IntKind.bits, IntKind.signed]; simp; omega
      have hp := hR.p
      have c78 := hp.cell (i := 78) (by decide)
      have bf := hp.bd hlt
      have lp := hp.lt
      rw [show pk 78 = .u8 from rfl, ht] at c78
      have H1 := Lib.hid hR
      have HO := Lib.hid hno
      clear hp hR hno
      go_upto_region 4 with fail
      refine region_below (by kernel_rfl) (by kernel_rfl) ?_
      try simp only [Act.put]
      repeat (go_big_quiet_step (first | (go_at_call 24; (with_reducible exact quiet_below (H6.out _)))))
      refine wpQuiet_nil ?_
      intro w2 hb
      have H2 := Lib.hid (H1.out.next hb)
      clear hb c78 bf lp
      by_cases hA : c (1 + a) = 14
      · have kA : (c (1 + a) != 14) = false := by simpa using hA
        clear hA
        go_wp2
        rw [show decide ((a : Int) < 64) = true by simp; omega]
        try rw [kA]
        go_loopw [7] (fun i wr => ∃ b : Nat, b ≤ 64 ∧ i = .int .i8 (b : Int) ∧ N.NoneIn c s a b ∧ MvRes w w.heap.size c wr) (fun i _ => 64 - (intOf i).toNat)
        case atStart => exact ⟨0, Nat.zero_le _, rfl, fun y hy => by omega, H2.out⟩
        case round =>
          obtain ⟨b, hb, rfl, hin, hR⟩ := hrel
          by_cases hlb : b < 64
          · have w9 : IntKind.i8.wrap ((b : Int) + 1) = (b : Int) + 1 := by unfold IntKind.wrap; simp only [IntKind.bits, IntKind.signed]; simp; omega
            have HI := Lib.hid hin
            have HR := Lib.hid hR
            clear hin hR hb
            by_cases hne : a = b
            · have nab : ((a : Int) != (b : Int)) = false := by simp; omega
              have HN := Lib.hid (show ¬ N.IsCas c a b s from fun e => e.2.2.1 hne)
              clear hne
              go_wp2_with (first
                | ((with_reducible refine wp_store_row' rfl 33 _ _ rfl ?_); refine ⟨w.heap.size + 1, 33, movC a b 0 0 true, rfl, rfl, ⟨_, H5.out.1.res.heap, (by kernel_rfl)⟩, Try.info_mvB _ _ _ _ _, Try.one_mvB _ _ _ _ _, ?_⟩; intro W9 hP9 hq9; have HB := Lib.hid (hP9.below H5.out.1.below (Nat.le_succ _)))
                | ((with_reducible refine wp_store_row' rfl 33 _ _ rfl ?_); refine ⟨wr.heap.size, 33, movC a b 0 0 true, rfl, rfl, ⟨_, heap_alloc_new _ _, (by kernel_rfl)⟩, Try.info_mvB _ _ _ _ _, Try.one_mvB _ _ _ _ _, ?_⟩; intro W3 hP hq; have H3 := Lib.hid (And.intro ((HR.out.next ((Below.refl _ _).alloc (Nat.le_refl _) _)).other hP HR.out.res.lt) (And.intro hq HR.out.res.lt)); clear hP hq)
                | ((with_reducible refine wp_load_box_g rfl _ rfl ?_); refine ⟨_, c, rfl, H4.out.1.p, ?_⟩)
                | ((with_reducible refine wp_load_box_g rfl _ rfl ?_); refine ⟨_, c, rfl, H3.out.1.p, ?_⟩)
                | ((with_reducible refine mv_load_rowG rfl 33 _ rfl Try.underlying33 rfl ?_); refine ⟨_, _, _, rfl, H5.out.2.1, Try.info_mvB _ _ _ _ _, ?_⟩)
                | ((with_reducible refine mv_load_rowG rfl 33 _ rfl Try.underlying33 rfl ?_); refine ⟨_, _, _, rfl, H4.out.2.1, Try.info_mvB _ _ _ _ _, ?_⟩)
                | ((with_reducible refine mv_load_rowG rfl 33 _ rfl Try.underlying33 rfl ?_); refine ⟨_, _, _, rfl, H3.out.2.1, Try.info_mvB _ _ _ _ _, ?_⟩)
                | (go_at_call 25; (with_reducible refine (HC.out _).mono ?_); rintro e w5 ⟨rfl, hb5⟩; have H5 := Lib.hid (And.intro (H4.out.1.next hb5) (And.intro (H4.out.2.1.below hb5) H4.out.2.2)); clear hb5)
                | (go_at_call 25; (with_reducible refine (HC.out _).mono ?_); rintro e w4 ⟨rfl, hb4⟩; have H4 := Lib.hid (And.intro (H3.out.1.next hb4) (And.intro (H3.out.2.1.below hb4) H3.out.2.2)); clear hb4))
              go_roundw
              case rel => exact ⟨b + 1, by omega, by go_num, N.noneIn_succ HI.out HN.out, H3.out.1⟩
              case measure => simp [intOf]; omega
            · have nab : ((a : Int) != (b : Int)) = true := by simp; omega
              have HC := Lib.hid (fun W => HCas.out a b hlt hlb hne W)
              have hh := HHit.out a b hlt hlb hne
              obtain ⟨T, hT⟩ : ∃ T, N.cas c a b = T := ⟨_, rfl⟩
              rw [hT] at HC hh
              clear hT
              cases e1 : T.toList.isEmpty
              · cases e2 : (T.toList == s.toList)
                · have HN := Lib.hid (show ¬ N.IsCas c a b s from fun e => by have := (hh.2 e).2; rw [e2] at this; cases this)
                  clear hh
                  go_wp2_with (first
                    | ((with_reducible refine wp_store_row' rfl 33 _ _ rfl ?_); refine ⟨w.heap.size + 1, 33, movC a b 0 0 true, rfl, rfl, ⟨_, H5.out.1.res.heap, (by kernel_rfl)⟩, Try.info_mvB _ _ _ _ _, Try.one_mvB _ _ _ _ _, ?_⟩; intro W9 hP9 hq9; have HB := Lib.hid (hP9.below H5.out.1.below (Nat.le_succ _)))
                    | ((with_reducible refine wp_store_row' rfl 33 _ _ rfl ?_); refine ⟨wr.heap.size, 33, movC a b 0 0 true, rfl, rfl, ⟨_, heap_alloc_new _ _, (by kernel_rfl)⟩, Try.info_mvB _ _ _ _ _, Try.one_mvB _ _ _ _ _, ?_⟩; intro W3 hP hq; have H3 := Lib.hid (And.intro ((HR.out.next ((Below.refl _ _).alloc (Nat.le_refl _) _)).other hP HR.out.res.lt) (And.intro hq HR.out.res.lt)); clear hP hq)
                    | ((with_reducible refine wp_load_box_g rfl _ rfl ?_); refine ⟨_, c, rfl, H4.out.1.p, ?_⟩)
                    | ((with_reducible refine wp_load_box_g rfl _ rfl ?_); refine ⟨_, c, rfl, H3.out.1.p, ?_⟩)
                    | ((with_reducible refine mv_load_rowG rfl 33 _ rfl Try.underlying33 rfl ?_); refine ⟨_, _, _, rfl, H5.out.2.1, Try.info_mvB _ _ _ _ _, ?_⟩)
                    | ((with_reducible refine mv_load_rowG rfl 33 _ rfl Try.underlying33 rfl ?_); refine ⟨_, _, _, rfl, H4.out.2.1, Try.info_mvB _ _ _ _ _, ?_⟩)
                    | ((with_reducible refine mv_load_rowG rfl 33 _ rfl Try.underlying33 rfl ?_); refine ⟨_, _, _, rfl, H3.out.2.1, Try.info_mvB _ _ _ _ _, ?_⟩)
                    | (go_at_call 25; (with_reducible refine (HC.out _).mono ?_); rintro e w5 ⟨rfl, hb5⟩; have H5 := Lib.hid (And.intro (H4.out.1.next hb5) (And.intro (H4.out.2.1.below hb5) H4.out.2.2)); clear hb5)
                    | (go_at_call 25; (with_reducible refine (HC.out _).mono ?_); rintro e w4 ⟨rfl, hb4⟩; have H4 := Lib.hid (And.intro (H3.out.1.next hb4) (And.intro (H3.out.2.1.below hb4) H3.out.2.2)); clear hb4))
                  go_roundw
                  case rel => exact ⟨b + 1, by omega, by go_num, N.noneIn_succ HI.out HN.out, H5.out.1⟩
                  case measure => simp [intOf]; omega
                · have HY := Lib.hid (hh.1 ⟨e1, e2⟩)
                  clear hh
                  go_wp2_with (first
                    | ((with_reducible refine wp_store_row' rfl 33 _ _ rfl ?_); refine ⟨w.heap.size + 1, 33, movC a b 0 0 true, rfl, rfl, ⟨_, H5.out.1.res.heap, (by kernel_rfl)⟩, Try.info_mvB _ _ _ _ _, Try.one_mvB _ _ _ _ _, ?_⟩; intro W9 hP9 hq9; have HB := Lib.hid (hP9.below H5.out.1.below (Nat.le_succ _)))
                    | ((with_reducible refine wp_store_row' rfl 33 _ _ rfl ?_); refine ⟨wr.heap.size, 33, movC a b 0 0 true, rfl, rfl, ⟨_, heap_alloc_new _ _, (by kernel_rfl)⟩, Try.info_mvB _ _ _ _ _, Try.one_mvB _ _ _ _ _, ?_⟩; intro W3 hP hq; have H3 := Lib.hid (And.intro ((HR.out.next ((Below.refl _ _).alloc (Nat.le_refl _) _)).other hP HR.out.res.lt) (And.intro hq HR.out.res.lt)); clear hP hq)
                    | ((with_reducible refine wp_load_box_g rfl _ rfl ?_); refine ⟨_, c, rfl, H4.out.1.p, ?_⟩)
                    | ((with_reducible refine wp_load_box_g rfl _ rfl ?_); refine ⟨_, c, rfl, H3.out.1.p, ?_⟩)
                    | ((with_reducible refine mv_load_rowG rfl 33 _ rfl Try.underlying33 rfl ?_); refine ⟨_, _, _, rfl, H5.out.2.1, Try.info_mvB _ _ _ _ _, ?_⟩)
                    | ((with_reducible refine mv_load_rowG rfl 33 _ rfl Try.underlying33 rfl ?_); refine ⟨_, _, _, rfl, H4.out.2.1, Try.info_mvB _ _ _ _ _, ?_⟩)
                    | ((with_reducible refine mv_load_rowG rfl 33 _ rfl Try.underlying33 rfl ?_); refine ⟨_, _, _, rfl, H3.out.2.1, Try.info_mvB _ _ _ _ _, ?_⟩)
                    | (go_at_call 25; (with_reducible refine (HC.out _).mono ?_); rintro e w5 ⟨rfl, hb5⟩; have H5 := Lib.hid (And.intro (H4.out.1.next hb5) (And.intro (H4.out.2.1.below hb5) H4.out.2.2)); clear hb5)
                    | (go_at_call 25; (with_reducible refine (HC.out _).mono ?_); rintro e w4 ⟨rfl, hb4⟩; have H4 := Lib.hid (And.intro (H3.out.1.next hb4) (And.intro (H3.out.2.1.below hb4) H3.out.2.2)); clear hb4))
                  exact bodyPost_ret (results_mv_tmp Try.results13 _ _ (w.heap.size + 1) 33 _ (0, 0) _ rfl hq9.heap Try.underlying33 rfl (Try.info_mvB _ _ _ _ _)) rfl ⟨⟨_, _, _, _, rfl, .inl ⟨rfl, a, b, rfl, rfl, HY.out⟩, fun _ => rfl, nofun⟩, HB.out⟩
              · have HN := Lib.hid (show ¬ N.IsCas c a b s from fun e => by have := (hh.2 e).1; rw [e1] at this; cases this)
                clear hh
                go_wp2_with (first
                  | ((with_reducible refine wp_store_row' rfl 33 _ _ rfl ?_); refine ⟨w.heap.size + 1, 33, movC a b 0 0 true, rfl, rfl, ⟨_, H5.out.1.res.heap, (by kernel_rfl)⟩, Try.info_mvB _ _ _ _ _, Try.one_mvB _ _ _ _ _, ?_⟩; intro W9 hP9 hq9; have HB := Lib.hid (hP9.below H5.out.1.below (Nat.le_succ _)))
                  | ((with_reducible refine wp_store_row' rfl 33 _ _ rfl ?_); refine ⟨wr.heap.size, 33, movC a b 0 0 true, rfl, rfl, ⟨_, heap_alloc_new _ _, (by kernel_rfl)⟩, Try.info_mvB _ _ _ _ _, Try.one_mvB _ _ _ _ _, ?_⟩; intro W3 hP hq; have H3 := Lib.hid (And.intro ((HR.out.next ((Below.refl _ _).alloc (Nat.le_refl _) _)).other hP HR.out.res.lt) (And.intro hq HR.out.res.lt)); clear hP hq)
                  | ((with_reducible refine wp_load_box_g rfl _ rfl ?_); refine ⟨_, c, rfl, H4.out.1.p, ?_⟩)
                  | ((with_reducible refine wp_load_box_g rfl _ rfl ?_); refine ⟨_, c, rfl, H3.out.1.p, ?_⟩)
                  | ((with_reducible refine mv_load_rowG rfl 33 _ rfl Try.underlying33 rfl ?_); refine ⟨_, _, _, rfl, H5.out.2.1, Try.info_mvB _ _ _ _ _, ?_⟩)
                  | ((with_reducible refine mv_load_rowG rfl 33 _ rfl Try.underlying33 rfl ?_); refine ⟨_, _, _, rfl, H4.out.2.1, Try.info_mvB _ _ _ _ _, ?_⟩)
                  | ((with_reducible refine mv_load_rowG rfl 33 _ rfl Try.underlying33 rfl ?_); refine ⟨_, _, _, rfl, H3.out.2.1, Try.info_mvB _ _ _ _ _, ?_⟩)
                  | (go_at_call 25; (with_reducible refine (HC.out _).mono ?_); rintro e w5 ⟨rfl, hb5⟩; have H5 := Lib.hid (And.intro (H4.out.1.next hb5) (And.intro (H4.out.2.1.below hb5) H4.out.2.2)); clear hb5)
                  | (go_at_call 25; (with_reducible refine (HC.out _).mono ?_); rintro e w4 ⟨rfl, hb4⟩; have H4 := Lib.hid (And.intro (H3.out.1.next hb4) (And.intro (H3.out.2.1.below hb4) H3.out.2.2)); clear hb4))
                go_roundw
                case rel => exact ⟨b + 1, by omega, by go_num, N.noneIn_succ HI.out HN.out, H4.out.1⟩
                case measure => simp [intOf]; omega
          · obtain rfl : b = 64 := by omega
            have HN := Lib.hid (N.noneTo_succ HO.out (N.noneIn_all hin))
            clear hin hb
            go_wp2
            go_roundw
            case rel => exact ⟨a + 1, by omega, by go_num, HN.out, hR⟩
            case measure => simp [intOf]; omega
      · have kA : (c (1 + a) != 14) = true := by simpa using hA
        have HN := Lib.hid (N.noneTo_succ HO.out (fun y e => hA (HKing.out a y e)))
        clear hA
        go_wp2
        go_roundw
        case rel => exact ⟨a + 1, by omega, by go_num, HN.out, H2.out⟩
        case measure => simp [intOf]; omega
    · obtain rfl : a = 64 := by omega
      have HN := Lib.hid (N.noneTo_all hno)
      have HR := Lib.hid hR
      clear hno ha
      go_wp2_with ((with_reducible refine wp_store_row' rfl 33 _ _ rfl ?_); refine ⟨w.heap.size + 1, 33, movC 0 0 0 0 false, rfl, rfl, ⟨_, HR.out.res.heap, (by kernel_rfl)⟩, Try.info_mvB _ _ _ _ _, Try.one_mvB _ _ _ _ _, ?_⟩; intro W9 hP9 hq9; have HB := Lib.hid (hP9.below HR.out.below (Nat.le_succ _)))
      exact bodyPost_ret (results_mv_tmp Try.results13 _ _ (w.heap.size + 1) 33 _ (0, 0) _ rfl hq9.heap Try.underlying33 rfl (Try.info_mvB _ _ _ _ _)) rfl ⟨⟨_, _, _, _, rfl, HN.out, nofun, fun _ => ⟨rfl, rfl, rfl⟩⟩, HB.out⟩

theorem d11castling_fix (c : Nat → Int) (s : ByteArray) (hc : PosOk c) (hk : N.known c) : ∃ (f g : Int) (z ok : Bool), (N.RookR c s f g ok ∧ (ok = true → z = true) ∧ (ok = false → f = 0 ∧ g = 0 ∧ z = false)) ∧ ∀ w, Calls Try.prog 13 #[.agg (posC c), .string s] w fun e w' => e = .returned (.tuple #[.agg (movC f g 0 0 z), .bool ok]) ∧ Below w.heap.size w w' := by
  have H : ∀ w, Calls Try.prog 13 #[.agg (posC c), .string s] w fun e w' => (∃ (f g : Int) (z ok : Bool), e = .returned (.tuple #[.agg (movC f g 0 0 z), .bool ok]) ∧ N.RookR c s f g ok ∧ (ok = true → z = true) ∧ (ok = false → f = 0 ∧ g = 0 ∧ z = false)) ∧ Below w.heap.size w w' := fun w => by
    rcases (show c 78 = 0 ∨ c 78 = 1 by have := hk.2; omega) with h | h
    · exact d11castling_0 c s w hc hk h
    · exact d11castling_1 c s w hc hk h
  by_cases hex : ∃ a b, N.IsCas c a b s
  · obtain ⟨a, b, hab⟩ := hex
    refine ⟨(a : Int), (b : Int), true, true, ⟨.inl ⟨rfl, a, b, rfl, rfl, hab⟩, fun _ => rfl, nofun⟩, fun w => (H w).mono ?_⟩
    rintro e w' ⟨⟨f, g, z, ok, rfl, hr, hz, hn⟩, hb⟩
    obtain ⟨rfl, hfg⟩ := N.rookR_one hk.2 (.inl ⟨rfl, a, b, rfl, rfl, hab⟩) hr
    obtain ⟨rfl, rfl⟩ := hfg rfl
    obtain rfl := hz rfl
    exact ⟨rfl, hb⟩
  · have hno : N.RookR c s 0 0 false := .inr ⟨rfl, fun a b h => hex ⟨a, b, h⟩⟩
    refine ⟨0, 0, false, false, ⟨hno, nofun, fun _ => ⟨rfl, rfl, rfl⟩⟩, fun w => (H w).mono ?_⟩
    rintro e w' ⟨⟨f, g, z, ok, rfl, hr, hz, hn⟩, hb⟩
    obtain ⟨rfl, _⟩ := N.rookR_one hk.2 hno hr
    obtain ⟨rfl, rfl, rfl⟩ := hn rfl
    exact ⟨rfl, hb⟩
end Go.Proofs.Ytldpejeodhkgdaa
