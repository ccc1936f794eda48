/- The document's Parse of moves. -/
import Derived.Test.YtldpejeodhkgdaaMvU
import Derived.Test.YtldpejeodhkgdaaMvO
namespace Go.Proofs.Ytldpejeodhkgdaa
open Go.RowKit Go.Sort
attribute [local go_sem] Oper.semAt_some

namespace N
theorem text_of_ne11 {c : Nat → Int} {f g x y : Int} {z : Bool} {s : ByteArray} (h : TextEnd c f g x y z s) (hs : s ≠ ⟨#[]⟩) : Text c f g x y z s := by
  rcases h with h | ⟨h, _⟩
  · exact h
  · exact absurd h hs
theorem text_size4 {c : Nat → Int} {f g x y : Int} {z : Bool} {s : ByteArray} (h : Text c f g x y z s) : 4 ≤ s.size ∧ s.size ≤ 5 := by
  obtain ⟨hk, _, h⟩ := h
  rcases h with ⟨_, _, _, _, rfl⟩ | ⟨_, _, _, _, hc⟩ | ⟨_, _, _, _, rfl, _⟩
  · exact ⟨Nat.le_of_ble_eq_true rfl, Nat.le_of_ble_eq_true rfl⟩
  · obtain ⟨a, b, _, _, rfl⟩ := cas_two hk.2 hc
    exact ⟨Nat.le_of_ble_eq_true rfl, Nat.le_of_ble_eq_true rfl⟩
  · exact ⟨by unfold walk; show 4 ≤ (lowB _).length + 4; omega, walk_size _ _ _⟩
/-- A text's squares, where no castling has it. -/
theorem text_parts {c : Nat → Int} {f g x y : Int} {z : Bool} {s : ByteArray} (hn : ∀ a b, ¬ IsCas c a b s) (h : Text c f g x y z s) : z = false ∧ s.extract 2 4 = tx g.toNat ∧ (y = 0 → s.extract 0 2 = tx f.toNat) ∧ ((y = 0 ∧ (x = 0 ∨ (2 ≤ x ∧ x ≤ 6))) ∨ (x = 0 ∧ f = g ∧ (1 ≤ y ∧ y ≤ 5))) := by
  obtain ⟨hk, _, h⟩ := h
  rcases h with ⟨h1, h2, h3, h4, rfl⟩ | ⟨_, _, _, _, hc⟩ | ⟨h1, _, h3, h4, rfl, _⟩
  · exact ⟨h4, ext24 _ _ _ _ [], (fun h => by omega), .inr ⟨h3, h2, h1⟩⟩
  · exact absurd hc (hn _ _)
  · exact ⟨h4, ext24 _ _ _ _ _, fun _ => ext02 _ _ _ _ _, .inl ⟨h1, h3⟩⟩
def NoneG (c : Nat → Int) (s : ByteArray) (n : Nat) : Prop := ∀ f g x y z, Text c f g x y z s → (n : Int) ≤ g
def NoneK (c : Nat → Int) (s : ByteArray) (n k : Nat) : Prop := ∀ f x y z, Text c f (n : Int) x y z s → (k : Int) ≤ x + y
def NoneA (c : Nat → Int) (s : ByteArray) (n k a : Nat) : Prop := ∀ f, Text c f (n : Int) (k : Int) 0 false s → (a : Int) ≤ f
theorem noneG_other {c : Nat → Int} {s : ByteArray} {n : Nat} (hn : ∀ a b, ¬ IsCas c a b s) (h : NoneG c s n) (h1 : s.extract 2 4 ≠ tx n) : NoneG c s (n + 1) := fun f g x y z ht => by
  have h2 := h _ _ _ _ _ ht
  have h3 := (text_parts hn ht).2.1
  have : g ≠ (n : Int) := by
    rintro rfl
    exact h1 (by simpa using h3)
  omega
theorem noneG_kinds {c : Nat → Int} {s : ByteArray} {n : Nat} (hn : ∀ a b, ¬ IsCas c a b s) (h : NoneG c s n) (h1 : NoneK c s n 7) : NoneG c s (n + 1) := fun f g x y z ht => by
  have h2 := h _ _ _ _ _ ht
  have : g ≠ (n : Int) := by
    rintro rfl
    have h3 := h1 _ _ _ _ ht
    have h4 := (text_parts hn ht).2.2.2
    omega
  omega
theorem noneK_succ {c : Nat → Int} {s : ByteArray} {n k : Nat} (hn : ∀ a b, ¬ IsCas c a b s) (h : NoneK c s n k) (h1 : ¬ Text c (n : Int) (n : Int) 0 (k : Int) false s) (h2 : NoneA c s n k 64) : NoneK c s n (k + 1) := fun f x y z ht => by
  have h3 := h _ _ _ _ ht
  have hf := ht.2.1.1
  obtain ⟨rfl, _, _, h4⟩ := text_parts hn ht
  have : x + y ≠ (k : Int) := by
    intro e
    rcases h4 with ⟨rfl, _⟩ | ⟨rfl, rfl, _⟩
    · obtain rfl : x = (k : Int) := by omega
      have := h2 _ ht
      omega
    · obtain rfl : y = (k : Int) := by omega
      exact h1 ht
  omega
theorem noneA_succ {c : Nat → Int} {s : ByteArray} {n k a : Nat} (h : NoneA c s n k a) (h1 : ¬ Text c (a : Int) (n : Int) (k : Int) 0 false s) : NoneA c s n k (a + 1) := fun f ht => by
  have h2 := h _ ht
  have : f ≠ (a : Int) := by
    rintro rfl
    exact h1 ht
  omega
theorem noneG_end {c : Nat → Int} {s : ByteArray} (hk : known c) (h : NoneG c s 64) : ParseEnd c s 0 0 0 0 false 5 := .inr ⟨⟨rfl, rfl, rfl, rfl, rfl⟩, .inr ⟨rfl, hk, fun f g x y z ht => by
  have h1 := h _ _ _ _ _ ht
  have h2 := ht.2.1.2
  omega⟩⟩
theorem text_iff {c : Nat → Int} {f g x y : Int} {z : Bool} {S s : ByteArray} (hE : TextEnd c f g x y z S) (hs : 4 ≤ s.size) : (S.toList == s.toList) = true ↔ Text c f g x y z s := by
  rw [toList_iff]
  constructor
  · rintro rfl
    refine text_of_ne11 hE (fun e => ?_)
    rw [e] at hs
    exact absurd hs (by decide)
  · intro h
    exact textEnd_one hE (.inl h)
theorem parseEnd_one {c : Nat → Int} {s : ByteArray} {f g x y e f' g' x' y' e' : Int} {z z' : Bool} (h : ParseEnd c s f g x y z e) (h' : ParseEnd c s f' g' x' y' z' e') : f = f' ∧ g = g' ∧ x = x' ∧ y = y' ∧ z = z' ∧ e = e' := by
  rcases h with ⟨rfl, h⟩ | ⟨⟨rfl, rfl, rfl, rfl, rfl⟩, h⟩
  · rcases h' with ⟨rfl, h'⟩ | ⟨_, ⟨_, h'⟩ | ⟨_, _, h'⟩⟩
    · obtain ⟨a, b, c, d, e⟩ := text_one h h'
      exact ⟨a, b, c, d, e, rfl⟩
    · exact absurd h.1 h'
    · exact absurd h (h' _ _ _ _ _)
  · rcases h' with ⟨rfl, h'⟩ | ⟨⟨rfl, rfl, rfl, rfl, rfl⟩, h'⟩
    · rcases h with ⟨_, h⟩ | ⟨_, _, h⟩
      · exact absurd h'.1 h
      · exact absurd h' (h _ _ _ _ _)
    · refine ⟨rfl, rfl, rfl, rfl, rfl, ?_⟩
      rcases h with ⟨rfl, h⟩ | ⟨rfl, h, _⟩
      · rcases h' with ⟨rfl, _⟩ | ⟨_, h', _⟩
        · rfl
        · exact absurd h' h
      · rcases h' with ⟨_, h'⟩ | ⟨rfl, _⟩
        · exact absurd h h'
        · rfl
end N

theorem exec_cutL (ev : Operand → Value) (o : Oper) (x z : Operand) (s : ByteArray) (b : Nat) (w : World) (ho : o.op = .slice 9 x none (some z) none) (hx : ev x = .string s) (hz : ev z = .int .i64 (b : Int)) (h2 : b ≤ s.size) :
    (execOp ev o).run Try.prog w = .ok (.value (.string (s.extract 0 b))) w := by
  unfold execOp
  simp only [ho, hx, hz, Option.map]
  have e3 : (b : Int) ≤ (s.size : Int) := by omega
  simp [go_sem, e3]
theorem quiet_cutL {S : World → Prop} {K : Act → Prop} {a : Act} {o : Oper} (x z : Operand) (ho : o.op = .slice 9 x none (some z) none)
    (h : ∃ (s : ByteArray) (j : Nat), a.eval x = .string s ∧ a.eval z = .int .i64 (j : Int) ∧ (j ≤ s.size ∧ s.size ≤ 9223372036854775807) ∧ K (a.put o.dst (.string (s.extract 0 j)))) : o.quiet Try.prog a S K := by
  obtain ⟨s, j, hx, hz, ⟨h2, _⟩, hk⟩ := h
  refine ⟨_, fun w' _ => ?_, hk⟩
  unfold Oper.quietAt
  simp only [exec_cutL a.eval o x z s j w' ho hx hz h2]
  exact ⟨rfl, rfl⟩
/-- A move is loaded out of its box, in a region that draws. -/
theorem quiet_load_mvR {K : Act → Prop} {a : Act} {o : Oper} {w : World} (x : Operand) (ho : o.op = .load 33 x)
    (h : ∃ (g : Nat) (T : TypeId) (f d p q : Int) (z : Bool), a.eval x = .pointer (some ⟨g, 0, none⟩) ∧ RowAt w g T (movC f d p q z) ∧ K (a.put o.dst (.agg (movC f d p q z)))) : o.quiet Try.prog a (fun w' => ∃ p : Regrown, w' = grow (redrawn w p.d) p.os) K := by
  obtain ⟨g, T, f, d, p, q, z, hx, hp, hk⟩ := h
  refine ⟨.agg (movC f d p q z), fun w' hw => ?_, hk⟩
  obtain ⟨r, rfl⟩ := hw
  have hg : (grow (redrawn w r.d) r.os).heap[g]? = some (.cells (movC f d p q z) T (0, 0)) := by rw [heap_grow _ _ _ _ hp.lt]; exact hp.heap
  unfold Oper.quietAt execOp
  simp only [ho, hx, Instr.loadAt, Instr.sureAddr, Sem.run_bind, Sem.run_pure, Result.andThen_ok, run_loadVar_row _ g T 33 (movC f d p q z) (0, 0) _ hg Try.underlying33 rfl (Try.info_mvB _ _ _ _ _)]
  exact ⟨rfl, rfl⟩
set_option maxRecDepth 100000 in
set_option maxHeartbeats 8000000 in
theorem d11Parse_any (c : Nat → Int) (s : ByteArray) (w : World) (hc : PosOk c) (hs : s.size ≤ 9223372036854775807) : Calls Try.prog 5 #[.agg (posC c), .string s] w fun r w' => (∃ (f g x y : Int) (z : Bool) (e : Int), r = .returned (.tuple #[.agg (movC f g x y z), .int .i64 e]) ∧ N.ParseEnd c s f g x y z e) ∧ Below w.heap.size w w' := by
  have h0 : MvRes w w.heap.size c ((w.alloc (.cells (posC c) 31)).alloc (.cells #[.int .i8 0, .int .i8 0, .int .u8 0, .int .u8 0, .bool false] 33)) :=
    ⟨(PosAt.new w c).alloc _, by have := RowAt.new (w.alloc (.cells (posC c) 31)) #[.int .i8 0, .int .i8 0, .int .u8 0, .int .u8 0, .bool false] 33; rwa [World.size_alloc] at this, ((Below.refl _ _).alloc (Nat.le_refl _) _).alloc (by simp) _⟩
  have c0 := h0.p.cell (i := 0) (by decide)
  have c78 := h0.p.cell (i := 78) (by decide)
  rw [show pk 0 = .u8 from rfl] at c0
  rw [show pk 78 = .u8 from rfl] at c78
  have H0 := Lib.hid h0
  clear h0
  have i1 := N.kn_iff hc
  unfold N.kn at i1
  rw [Bool.and_eq_true, decide_eq_true_eq, decide_eq_true_eq] at i1
  by_cases hkn : N.known c
  · have HKn := Lib.hid hkn
    have HPos := Lib.hid hc
    have d0 : decide (8 < c 0) = false := by have := i1.2 hkn; simp; omega
    have d1 : decide (1 < c 78) = false := by have := i1.2 hkn; simp; omega
    obtain ⟨f, g, z, ok, ⟨hR, hz, hnz⟩, hCC⟩ := d11castling_fix c s hc hkn
    have HC := Lib.hid hCC
    clear i1 hCC hc
    cases ok
    · have HNo : Hid (∀ a b, ¬ N.IsCas c a b s) := Lib.hid (by
        rcases hR with ⟨h, _⟩ | ⟨_, h⟩
        · cases h
        · exact h)
      clear hR hz hnz
      by_cases h4 : s.size < 4
      · have HE := Lib.hid (show N.ParseEnd c s 0 0 0 0 false 5 from .inr ⟨⟨rfl, rfl, rfl, rfl, rfl⟩, .inr ⟨rfl, hkn, fun f g x y z ht => by have := (N.text_size4 ht).1; omega⟩⟩)
        have d4 : decide ((s.size : Int) < 4) = true := by simp; omega
        clear hkn h4
        go_enter Try.func5, Try.ntmps5
        go_wp2_with (first
          | ((with_reducible refine wp_load_box_g rfl _ rfl ?_); refine ⟨_, c, rfl, H0.out.p, ?_⟩)
          | (go_at_call 13; (with_reducible refine (HC.out _).mono ?_); rintro r w1 ⟨rfl, hb⟩; have H1 := Lib.hid (H0.out.next hb); clear hb)
          | ((with_reducible refine wp_store_row' rfl 33 _ _ rfl ?_); refine ⟨w1.heap.size, 33, movC f g 0 0 z, rfl, rfl, ⟨_, heap_alloc_new _ _, (by kernel_rfl)⟩, Try.info_mvB _ _ _ _ _, Try.one_mvB _ _ _ _ _, ?_⟩; intro W2 hP hq; have H2 := Lib.hid (And.intro ((H1.out.next ((Below.refl _ _).alloc (Nat.le_refl _) _)).other hP H1.out.res.lt) hq); clear hP hq)
          | ((with_reducible refine wp_store_row' rfl 33 _ _ rfl ?_); refine ⟨w.heap.size + 1, 33, movC 0 0 0 0 false, rfl, rfl, ⟨_, H2.out.1.res.heap, (by kernel_rfl)⟩, Try.info_mvB _ _ _ _ _, Try.one_mvB _ _ _ _ _, ?_⟩; intro W9 hP9 hq9; have HB := Lib.hid (hP9.below H2.out.1.below (Nat.le_succ _))))
        exact bodyPost_ret (results_mv_tmp Try.results5 _ _ (w.heap.size + 1) 33 _ (0, 0) _ rfl hq9.heap Try.underlying33 rfl (Try.info_mvB _ _ _ _ _)) rfl ⟨⟨_, _, _, _, _, _, rfl, HE.out⟩, HB.out⟩
      have d4 : decide ((s.size : Int) < 4) = false := by simp; omega
      by_cases h5 : 5 < s.size
      · have HE := Lib.hid (show N.ParseEnd c s 0 0 0 0 false 5 from .inr ⟨⟨rfl, rfl, rfl, rfl, rfl⟩, .inr ⟨rfl, hkn, fun f g x y z ht => by have := (N.text_size4 ht).2; omega⟩⟩)
        have d5 : decide ((5 : Int) < (s.size : Int)) = true := by simp; omega
        clear hkn h4 h5
        go_enter Try.func5, Try.ntmps5
        go_wp2_with (first
          | ((with_reducible refine wp_load_box_g rfl _ rfl ?_); refine ⟨_, c, rfl, H0.out.p, ?_⟩)
          | (go_at_call 13; (with_reducible refine (HC.out _).mono ?_); rintro r w1 ⟨rfl, hb⟩; have H1 := Lib.hid (H0.out.next hb); clear hb)
          | ((with_reducible refine wp_store_row' rfl 33 _ _ rfl ?_); refine ⟨w1.heap.size, 33, movC f g 0 0 z, rfl, rfl, ⟨_, heap_alloc_new _ _, (by kernel_rfl)⟩, Try.info_mvB _ _ _ _ _, Try.one_mvB _ _ _ _ _, ?_⟩; intro W2 hP hq; have H2 := Lib.hid (And.intro ((H1.out.next ((Below.refl _ _).alloc (Nat.le_refl _) _)).other hP H1.out.res.lt) hq); clear hP hq)
          | ((with_reducible refine wp_store_row' rfl 33 _ _ rfl ?_); refine ⟨w.heap.size + 1, 33, movC 0 0 0 0 false, rfl, rfl, ⟨_, H2.out.1.res.heap, (by kernel_rfl)⟩, Try.info_mvB _ _ _ _ _, Try.one_mvB _ _ _ _ _, ?_⟩; intro W9 hP9 hq9; have HB := Lib.hid (hP9.below H2.out.1.below (Nat.le_succ _))))
        exact bodyPost_ret (results_mv_tmp Try.results5 _ _ (w.heap.size + 1) 33 _ (0, 0) _ rfl hq9.heap Try.underlying33 rfl (Try.info_mvB _ _ _ _ _)) rfl ⟨⟨_, _, _, _, _, _, rfl, HE.out⟩, HB.out⟩
      have d5 : decide ((5 : Int) < (s.size : Int)) = false := by simp; omega
      have HSz := Lib.hid (show 4 ≤ s.size ∧ s.size ≤ 9223372036854775807 ∧ s.size ≤ 5 from ⟨by omega, hs, by omega⟩)
      clear hkn h4 h5 hs
      go_enter Try.func5, Try.ntmps5
      go_wp2_with (first
        | ((with_reducible refine wp_load_box_g rfl _ rfl ?_); refine ⟨_, c, rfl, H0.out.p, ?_⟩)
        | (go_at_call 13; (with_reducible refine (HC.out _).mono ?_); rintro r w1 ⟨rfl, hb⟩; have H1 := Lib.hid (H0.out.next hb); clear hb)
        | ((with_reducible refine wp_store_row' rfl 33 _ _ rfl ?_); refine ⟨w1.heap.size, 33, movC f g 0 0 z, rfl, rfl, ⟨_, heap_alloc_new _ _, (by kernel_rfl)⟩, Try.info_mvB _ _ _ _ _, Try.one_mvB _ _ _ _ _, ?_⟩; intro W2 hP hq; have H2 := Lib.hid (And.intro ((H1.out.next ((Below.refl _ _).alloc (Nat.le_refl _) _)).other hP H1.out.res.lt) hq); clear hP hq))
      go_loopw [8] (fun i wr => ∃ n : Nat, n ≤ 64 ∧ i = .int .i8 (n : Int) ∧ N.NoneG c s n ∧ MvRes w w.heap.size c wr) (fun i _ => 64 - (intOf i).toNat)
      case atStart => exact ⟨0, Nat.zero_le _, rfl, fun f g x y z ht => by have := ht.2.1.2; omega, H2.out.1⟩
      case round =>
        obtain ⟨n, hn, rfl, hG, hR⟩ := hrel
        have HG := Lib.hid hG
        have HR := Lib.hid hR
        clear hG hR
        by_cases hlt : n < 64
        · have w8 : IntKind.i8.wrap ((n : Int) + 1) = (n : Int) + 1 := by unfold IntKind.wrap; simp only [IntKind.bits, IntKind.signed]; simp; omega
          have wn := i8_i64 hlt
          have HT := Lib.hid (fun W => d02text_any n W hlt)
          have hcmp := N.toList_iff (N.tx n) (s.extract 2 4)
          obtain ⟨T, hT⟩ : ∃ T, N.tx n = T := ⟨_, rfl⟩
          rw [hT] at HT hcmp
          obtain ⟨E, hE⟩ : ∃ E, s.extract 2 4 = E := ⟨_, rfl⟩
          rw [hE] at hcmp
          have HE := Lib.hid (And.intro hT hE)
          have C1 := Lib.hid (show 2 ≤ 4 ∧ 4 ≤ s.size ∧ s.size ≤ 9223372036854775807 from ⟨by decide, HSz.out.1, HSz.out.2.1⟩)
          clear hT
          go_upto_region 11 with fail
          refine region_below (by kernel_rfl) (by kernel_rfl) ?_
          try simp only [Act.put]
          repeat (first
            | (go_big_quiet_want; refine quiet_cut _ _ _ rfl ⟨s, 2, 4, rfl, rfl, rfl, C1.out, ?_⟩; rw [hE]; simp only [Act.put, List.setIfInBounds_toArray, List.set_cons_succ, List.set_cons_zero]; go_big_quiet_on)
            | go_big_quiet_step (first | (go_at_call 14; (with_reducible exact quiet_below (HT.out _)))))
          refine wpQuiet_nil ?_
          intro w3 hb
          have H3 := Lib.hid (HR.out.next hb)
          clear hb hE
          cases hB : (T.toList == E.toList)
          · have HN := Lib.hid (N.noneG_other HNo.out HG.out (fun e => by rw [HE.out.1, HE.out.2] at e; rw [hcmp.2 e.symm] at hB; cases hB))
            clear hcmp
            go_wp2
            go_roundw
            case rel => exact ⟨n + 1, by omega, by go_num, HN.out, H3.out⟩
            case measure => simp [intOf]; omega
          · clear hcmp
            go_wp2
            try rw [show decide ((n : Int) < 64) = true by simp; omega]
            try rw [show (!true) = false from rfl]
            go_loopw [9] (fun i wr => ∃ k : Nat, k ≤ 7 ∧ i = .int .u8 (k : Int) ∧ N.NoneK c s n k ∧ MvRes w w.heap.size c wr) (fun i _ => 7 - (intOf i).toNat)
            case atStart => exact ⟨0, Nat.zero_le _, rfl, fun f x y z ht => by have := (N.text_parts HNo.out ht).2.2.2; omega, H3.out⟩
            case round =>
              obtain ⟨k, hk7, rfl, hK, hR⟩ := hrel
              have HK := Lib.hid hK
              have HR4 := Lib.hid hR
              clear hK hR
              by_cases hlk : k < 7
              · have w9 : IntKind.u8.wrap ((k : Int) + 1) = (k : Int) + 1 := by unfold IntKind.wrap; simp only [IntKind.bits, IntKind.signed]; simp; omega
                obtain ⟨S, hS, hSC⟩ := d11Text_fix c (n : Int) (n : Int) 0 (k : Int) false HPos.out (by unfold MovOk; omega)
                have hiff := N.text_iff hS HSz.out.1
                have HS := Lib.hid hSC
                clear hS hSC
                cases hB2 : (S.toList == s.toList)
                · have HN1 := Lib.hid (show ¬ N.Text c (n : Int) (n : Int) 0 (k : Int) false s from fun e => by rw [hiff.2 e] at hB2; cases hB2)
                  clear hiff
                  go_wp2_with (first
                    | ((with_reducible refine wp_load_box_g rfl _ rfl ?_); refine ⟨_, c, rfl, H5.out.1.p, ?_⟩)
                    | ((with_reducible refine mv_load_rowG rfl 33 _ rfl Try.underlying33 rfl ?_); refine ⟨_, _, _, rfl, H5.out.2, Try.info_mvB _ _ _ _ _, ?_⟩)
                    | ((with_reducible refine wp_store_row' rfl 33 _ _ rfl ?_); refine ⟨_, 33, movC n n 0 k false, rfl, rfl, ⟨_, heap_alloc_new _ _, (by kernel_rfl)⟩, Try.info_mvB _ _ _ _ _, Try.one_mvB _ _ _ _ _, ?_⟩; intro VH5 hP hq; have H5 := Lib.hid (And.intro ((HR4.out.next ((Below.refl _ _).alloc (Nat.le_refl _) _)).other hP HR4.out.res.lt) hq); clear hP hq)
                    | (go_at_call 15; (with_reducible refine (HS.out _).mono ?_); rintro r w6 ⟨rfl, hb⟩; have H6 := Lib.hid (H5.out.1.next hb); clear hb))
                  try rw [show decide ((k : Int) < 7) = true by simp; omega]
                  try rw [hB2]
                  go_loopw [11] (fun i wr => ∃ a : Nat, a ≤ 64 ∧ i = .int .i8 (a : Int) ∧ N.NoneA c s n k a ∧ MvRes w w.heap.size c wr) (fun i _ => 64 - (intOf i).toNat)
                  case atStart => exact ⟨0, Nat.zero_le _, rfl, fun f ht => by have := ht.2.1.1; omega, H6.out⟩
                  case round =>
                    obtain ⟨a, ha, rfl, hA, hR⟩ := hrel
                    have HA := Lib.hid hA
                    have HR7 := Lib.hid hR
                    clear hA hR
                    by_cases hla : a < 64
                    · have wA : IntKind.i8.wrap ((a : Int) + 1) = (a : Int) + 1 := by unfold IntKind.wrap; simp only [IntKind.bits, IntKind.signed]; simp; omega
                      have wa := i8_i64 hla
                      have HTa := Lib.hid (fun W => d02text_any a W hla)
                      obtain ⟨S2, hS2, hSC2⟩ := d11Text_fix c (a : Int) (n : Int) (k : Int) 0 false HPos.out (by unfold MovOk; omega)
                      have hiff2 := N.text_iff hS2 HSz.out.1
                      have HS2 := Lib.hid hSC2
                      have hcmp2 := N.toList_iff (N.tx a) (s.extract 0 2)
                      obtain ⟨Ta, hTa⟩ : ∃ T, N.tx a = T := ⟨_, rfl⟩
                      obtain ⟨Ea, hEa⟩ : ∃ E, s.extract 0 2 = E := ⟨_, rfl⟩
                      rw [hTa] at HTa hcmp2
                      rw [hEa] at hcmp2
                      have HEa := Lib.hid (And.intro hTa hEa)
                      have C2 := HSz.out.1
                      have C3 := HSz.out.2.1
                      clear hS2 hSC2 hTa
                      go_upto_region 22 with ((with_reducible refine wp_store_row' rfl 33 _ _ rfl ?_); refine ⟨_, 33, movC a n k 0 false, rfl, rfl, ⟨_, heap_alloc_new _ _, (by kernel_rfl)⟩, Try.info_mvB _ _ _ _ _, Try.one_mvB _ _ _ _ _, ?_⟩; intro VH8 hP hq; have H8 := Lib.hid (And.intro ((HR7.out.next ((Below.refl _ _).alloc (Nat.le_refl _) _)).other hP HR7.out.res.lt) hq); clear hP hq)
                      cases hB3 : (Ta.toList == Ea.toList)
                      · have HN2 := Lib.hid (N.noneA_succ HA.out (fun e => by have e2 := (N.text_parts HNo.out e).2.2.1 rfl; rw [Int.toNat_natCast, HEa.out.1, HEa.out.2] at e2; rw [hcmp2.2 e2.symm] at hB3; cases hB3))
                        clear hcmp2 hiff2
                        refine region_below (by kernel_rfl) (by kernel_rfl) ?_
                        try simp only [Act.put]
                        repeat (first
                          | (go_big_quiet_want; refine quiet_load_mvp _ rfl ⟨_, c, rfl, H8.out.1.p, ?_⟩; simp only [Act.put, List.setIfInBounds_toArray, List.set_cons_succ, List.set_cons_zero]; go_big_quiet_on)
                          | (go_big_quiet_want; refine quiet_load_mvR _ rfl ⟨_, _, (a : Int), (n : Int), (k : Int), 0, false, rfl, H8.out.2, ?_⟩; simp only [Act.put, List.setIfInBounds_toArray, List.set_cons_succ, List.set_cons_zero]; go_big_quiet_on)
                          | (go_big_quiet_want; refine quiet_cutL _ _ rfl ⟨s, 2, rfl, rfl, ⟨Nat.le_trans (by decide) C2, C3⟩, ?_⟩; rw [hEa]; simp only [Act.put, List.setIfInBounds_toArray, List.set_cons_succ, List.set_cons_zero]; go_big_quiet_on)
                          | go_big_quiet_step (first | (go_at_call 14; (with_reducible exact quiet_below (HTa.out _)))))
                        refine wpQuiet_nil ?_
                        intro w10 hb
                        have H10 := Lib.hid (And.intro (H8.out.1.next hb) (H8.out.2.below hb))
                        clear hb hEa
                        go_wp2
                        go_roundw
                        case rel => exact ⟨a + 1, by omega, by go_num, HN2.out, H10.out.1⟩
                        case measure => simp [intOf]; omega
                      · cases hB4 : (S2.toList == s.toList)
                        · have HN2 := Lib.hid (N.noneA_succ HA.out (fun e => by rw [hiff2.2 e] at hB4; cases hB4))
                          clear hcmp2 hiff2
                          refine region_below (by kernel_rfl) (by kernel_rfl) ?_
                          try simp only [Act.put]
                          repeat (first
                            | (go_big_quiet_want; refine quiet_load_mvp _ rfl ⟨_, c, rfl, H8.out.1.p, ?_⟩; simp only [Act.put, List.setIfInBounds_toArray, List.set_cons_succ, List.set_cons_zero]; go_big_quiet_on)
                            | (go_big_quiet_want; refine quiet_load_mvR _ rfl ⟨_, _, (a : Int), (n : Int), (k : Int), 0, false, rfl, H8.out.2, ?_⟩; simp only [Act.put, List.setIfInBounds_toArray, List.set_cons_succ, List.set_cons_zero]; go_big_quiet_on)
                            | (go_big_quiet_want; refine quiet_cutL _ _ rfl ⟨s, 2, rfl, rfl, ⟨Nat.le_trans (by decide) C2, C3⟩, ?_⟩; rw [hEa]; simp only [Act.put, List.setIfInBounds_toArray, List.set_cons_succ, List.set_cons_zero]; go_big_quiet_on)
                            | go_big_quiet_step (first | (go_at_call 14; (with_reducible exact quiet_below (HTa.out _))) | (go_at_call 15; (with_reducible exact quiet_below (HS2.out _)))))
                          refine wpQuiet_nil ?_
                          intro w10 hb
                          have H10 := Lib.hid (And.intro (H8.out.1.next hb) (H8.out.2.below hb))
                          clear hb hEa
                          go_wp2
                          go_roundw
                          case rel => exact ⟨a + 1, by omega, by go_num, HN2.out, H10.out.1⟩
                          case measure => simp [intOf]; omega
                        · have HY := Lib.hid (hiff2.1 hB4)
                          clear hcmp2 hiff2
                          refine region_below (by kernel_rfl) (by kernel_rfl) ?_
                          try simp only [Act.put]
                          repeat (first
                            | (go_big_quiet_want; refine quiet_load_mvp _ rfl ⟨_, c, rfl, H8.out.1.p, ?_⟩; simp only [Act.put, List.setIfInBounds_toArray, List.set_cons_succ, List.set_cons_zero]; go_big_quiet_on)
                            | (go_big_quiet_want; refine quiet_load_mvR _ rfl ⟨_, _, (a : Int), (n : Int), (k : Int), 0, false, rfl, H8.out.2, ?_⟩; simp only [Act.put, List.setIfInBounds_toArray, List.set_cons_succ, List.set_cons_zero]; go_big_quiet_on)
                            | (go_big_quiet_want; refine quiet_cutL _ _ rfl ⟨s, 2, rfl, rfl, ⟨Nat.le_trans (by decide) C2, C3⟩, ?_⟩; rw [hEa]; simp only [Act.put, List.setIfInBounds_toArray, List.set_cons_succ, List.set_cons_zero]; go_big_quiet_on)
                            | go_big_quiet_step (first | (go_at_call 14; (with_reducible exact quiet_below (HTa.out _))) | (go_at_call 15; (with_reducible exact quiet_below (HS2.out _)))))
                          refine wpQuiet_nil ?_
                          intro w10 hb
                          have H10 := Lib.hid (And.intro (H8.out.1.next hb) (H8.out.2.below hb))
                          clear hb hEa
                          go_wp2_with (first
                            | ((with_reducible refine wp_store_row' rfl 33 _ _ rfl ?_); refine ⟨w.heap.size + 1, 33, movC a n k 0 false, rfl, rfl, ⟨_, H10.out.1.res.heap, (by kernel_rfl)⟩, Try.info_mvB _ _ _ _ _, Try.one_mvB _ _ _ _ _, ?_⟩; intro W9 hP9 hq9; have HB := Lib.hid (hP9.below H10.out.1.below (Nat.le_succ _)))
                            | ((with_reducible refine wp_load_box_g rfl _ rfl ?_); refine ⟨_, c, rfl, H10.out.1.p, ?_⟩)
                            | ((with_reducible refine mv_load_rowG rfl 33 _ rfl Try.underlying33 rfl ?_); refine ⟨_, _, _, rfl, H10.out.2, Try.info_mvB _ _ _ _ _, ?_⟩))
                          exact bodyPost_ret (results_mv_tmp Try.results5 _ _ (w.heap.size + 1) 33 _ (0, 0) _ rfl hq9.heap Try.underlying33 rfl (Try.info_mvB _ _ _ _ _)) rfl ⟨⟨_, _, _, _, _, _, rfl, .inl ⟨rfl, HY.out⟩⟩, HB.out⟩
                    · obtain rfl : a = 64 := by omega
                      have HN3 := Lib.hid (N.noneK_succ HNo.out HK.out HN1.out HA.out)
                      clear ha
                      go_wp2
                      go_roundw
                      case rel => exact ⟨k + 1, by omega, by go_num, HN3.out, HR7.out⟩
                      case measure => simp [intOf]; omega
                · have HY := Lib.hid (hiff.1 hB2)
                  clear hiff
                  go_wp2_with (first
                    | ((with_reducible refine wp_store_row' rfl 33 _ _ rfl ?_); refine ⟨w.heap.size + 1, 33, movC n n 0 k false, rfl, rfl, ⟨_, H6.out.res.heap, (by kernel_rfl)⟩, Try.info_mvB _ _ _ _ _, Try.one_mvB _ _ _ _ _, ?_⟩; intro W9 hP9 hq9; have HB := Lib.hid (hP9.below H6.out.below (Nat.le_succ _)))
                    | ((with_reducible refine wp_load_box_g rfl _ rfl ?_); refine ⟨_, c, rfl, H6x.out.1.p, ?_⟩)
                    | ((with_reducible refine mv_load_rowG rfl 33 _ rfl Try.underlying33 rfl ?_); refine ⟨_, _, _, rfl, H6x.out.2, Try.info_mvB _ _ _ _ _, ?_⟩)
                    | ((with_reducible refine wp_load_box_g rfl _ rfl ?_); refine ⟨_, c, rfl, H5.out.1.p, ?_⟩)
                    | ((with_reducible refine mv_load_rowG rfl 33 _ rfl Try.underlying33 rfl ?_); refine ⟨_, _, _, rfl, H5.out.2, Try.info_mvB _ _ _ _ _, ?_⟩)
                    | ((with_reducible refine wp_store_row' rfl 33 _ _ rfl ?_); refine ⟨_, 33, movC n n 0 k false, rfl, rfl, ⟨_, heap_alloc_new _ _, (by kernel_rfl)⟩, Try.info_mvB _ _ _ _ _, Try.one_mvB _ _ _ _ _, ?_⟩; intro VH5 hP hq; have H5 := Lib.hid (And.intro ((HR4.out.next ((Below.refl _ _).alloc (Nat.le_refl _) _)).other hP HR4.out.res.lt) hq); clear hP hq)
                    | (go_at_call 15; (with_reducible refine (HS.out _).mono ?_); rintro r w6 ⟨rfl, hb⟩; have H6 := Lib.hid (H5.out.1.next hb); have H6x := Lib.hid (And.intro (H5.out.1.next hb) (H5.out.2.below hb)); clear hb))
                  exact bodyPost_ret (results_mv_tmp Try.results5 _ _ (w.heap.size + 1) 33 _ (0, 0) _ rfl hq9.heap Try.underlying33 rfl (Try.info_mvB _ _ _ _ _)) rfl ⟨⟨_, _, _, _, _, _, rfl, .inl ⟨rfl, HY.out⟩⟩, HB.out⟩
              · obtain rfl : k = 7 := by omega
                have HN4 := Lib.hid (N.noneG_kinds HNo.out HG.out HK.out)
                clear hk7
                go_wp2
                go_roundw
                case rel => exact ⟨n + 1, by omega, by go_num, HN4.out, HR4.out⟩
                case measure => simp [intOf]; omega
        · obtain rfl : n = 64 := by omega
          have HF := Lib.hid (N.noneG_end HKn.out HG.out)
          clear hn
          go_wp2_with ((with_reducible refine wp_store_row' rfl 33 _ _ rfl ?_); refine ⟨w.heap.size + 1, 33, movC 0 0 0 0 false, rfl, rfl, ⟨_, HR.out.res.heap, (by kernel_rfl)⟩, Try.info_mvB _ _ _ _ _, Try.one_mvB _ _ _ _ _, ?_⟩; intro W9 hP9 hq9; have HB := Lib.hid (hP9.below HR.out.below (Nat.le_succ _)))
          exact bodyPost_ret (results_mv_tmp Try.results5 _ _ (w.heap.size + 1) 33 _ (0, 0) _ rfl hq9.heap Try.underlying33 rfl (Try.info_mvB _ _ _ _ _)) rfl ⟨⟨_, _, _, _, _, _, rfl, HF.out⟩, HB.out⟩
    · have HE := Lib.hid (N.parse_cas hkn hR (hz rfl))
      clear hR hz hnz hkn
      go_enter Try.func5, Try.ntmps5
      go_wp2_with (first
        | ((with_reducible refine wp_store_row' rfl 33 _ _ rfl ?_); refine ⟨w.heap.size + 1, 33, movC f g 0 0 z, rfl, rfl, ⟨_, H2.out.1.res.heap, (by kernel_rfl)⟩, Try.info_mvB _ _ _ _ _, Try.one_mvB _ _ _ _ _, ?_⟩; intro W9 hP9 hq9; have HB := Lib.hid (hP9.below H2.out.1.below (Nat.le_succ _)))
        | ((with_reducible refine wp_load_box_g rfl _ rfl ?_); refine ⟨_, c, rfl, H0.out.p, ?_⟩)
        | (go_at_call 13; (with_reducible refine (HC.out _).mono ?_); rintro r w1 ⟨rfl, hb⟩; have H1 := Lib.hid (H0.out.next hb); clear hb)
        | ((with_reducible refine wp_store_row' rfl 33 _ _ rfl ?_); refine ⟨w1.heap.size, 33, movC f g 0 0 z, rfl, rfl, ⟨_, heap_alloc_new _ _, (by kernel_rfl)⟩, Try.info_mvB _ _ _ _ _, Try.one_mvB _ _ _ _ _, ?_⟩; intro W2 hP hq; have H2 := Lib.hid (And.intro ((H1.out.next ((Below.refl _ _).alloc (Nat.le_refl _) _)).other hP H1.out.res.lt) hq); clear hP hq)
        | ((with_reducible refine mv_load_rowG rfl 33 _ rfl Try.underlying33 rfl ?_); refine ⟨_, _, _, rfl, H2.out.2, Try.info_mvB _ _ _ _ _, ?_⟩))
      exact bodyPost_ret (results_mv_tmp Try.results5 _ _ (w.heap.size + 1) 33 _ (0, 0) _ rfl hq9.heap Try.underlying33 rfl (Try.info_mvB _ _ _ _ _)) rfl ⟨⟨_, _, _, _, _, _, rfl, HE.out⟩, HB.out⟩
  · have HE := Lib.hid (show N.ParseEnd c s 0 0 0 0 false 2 from .inr ⟨⟨rfl, rfl, rfl, rfl, rfl⟩, .inl ⟨rfl, hkn⟩⟩)
    by_cases k0 : 8 < c 0
    · have d0 : decide (8 < c 0) = true := by simpa using k0
      clear i1 hkn k0 hc
      go_enter Try.func5, Try.ntmps5
      go_wp2_with ((with_reducible refine wp_store_row' rfl 33 _ _ rfl ?_); refine ⟨w.heap.size + 1, 33, movC 0 0 0 0 false, rfl, rfl, ⟨_, H0.out.res.heap, (by kernel_rfl)⟩, Try.info_mvB _ _ _ _ _, Try.one_mvB _ _ _ _ _, ?_⟩; intro W9 hP9 hq9; have HB := Lib.hid (hP9.below H0.out.below (Nat.le_succ _)))
      exact bodyPost_ret (results_mv_tmp Try.results5 _ _ (w.heap.size + 1) 33 _ (0, 0) _ rfl hq9.heap Try.underlying33 rfl (Try.info_mvB _ _ _ _ _)) rfl ⟨⟨_, _, _, _, _, _, rfl, HE.out⟩, HB.out⟩
    · have d0 : decide (8 < c 0) = false := by simpa using k0
      have d1 : decide (1 < c 78) = true := by
        rw [decide_eq_true_eq]
        apply Classical.byContradiction
        intro h
        exact hkn (i1.1 (by omega))
      clear i1 hkn k0 hc
      go_enter Try.func5, Try.ntmps5
      go_wp2_with ((with_reducible refine wp_store_row' rfl 33 _ _ rfl ?_); refine ⟨w.heap.size + 1, 33, movC 0 0 0 0 false, rfl, rfl, ⟨_, H0.out.res.heap, (by kernel_rfl)⟩, Try.info_mvB _ _ _ _ _, Try.one_mvB _ _ _ _ _, ?_⟩; intro W9 hP9 hq9; have HB := Lib.hid (hP9.below H0.out.below (Nat.le_succ _)))
      exact bodyPost_ret (results_mv_tmp Try.results5 _ _ (w.heap.size + 1) 33 _ (0, 0) _ rfl hq9.heap Try.underlying33 rfl (Try.info_mvB _ _ _ _ _)) rfl ⟨⟨_, _, _, _, _, _, rfl, HE.out⟩, HB.out⟩
end Go.Proofs.Ytldpejeodhkgdaa
