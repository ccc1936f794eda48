/- The program's package moves: Parse. -/
import Derived.Test.YtldpejeodhkgdaaMvM
import Derived.Test.YtldpejeodhkgdaaMvJ
namespace Go.Proofs.Ytldpejeodhkgdaa
open Go.RowKit Go.Sort
attribute [local go_sem] Oper.semAt_some

namespace N
/-- What is read. -/
def ParseEnd (c : Nat → Int) (s : ByteArray) (f g x y : Int) (z : Bool) (e : Int) : Prop :=
  (e = 0 ∧ Text c f g x y z s) ∨ ((f = 0 ∧ g = 0 ∧ x = 0 ∧ y = 0 ∧ z = false) ∧ ((e = 2 ∧ ¬ known c) ∨ (e = 5 ∧ known c ∧ ∀ f g x y z, ¬ Text c f g x y z s)))
theorem parse_cas {c : Nat → Int} {s : ByteArray} {f g : Int} {z : Bool} (hk : known c) (h : RookR c s f g true) (hz : z = true) : ParseEnd c s f g 0 0 z 0 := by
  subst hz
  rcases h with ⟨_, a, b, rfl, rfl, h⟩ | ⟨h, _⟩
  · have h' := h
    obtain ⟨ha, hb, hne, _⟩ := h'
    exact .inl ⟨rfl, hk, ⟨by omega, by omega⟩, .inr (.inl ⟨rfl, by omega, rfl, rfl, by simpa using h⟩)⟩
  · cases h
theorem parse_drop {c : Nat → Int} {s : ByteArray} {g y : Int} (hk : known c) (h : DropR s g y true) : ParseEnd c s g g 0 y false 0 := by
  rcases h with ⟨_, b, k, hb, hk2, rfl, rfl, rfl⟩ | ⟨h, _⟩
  · exact .inl ⟨rfl, hk, ⟨by omega, by omega⟩, .inl ⟨by omega, rfl, rfl, rfl, by simp⟩⟩
  · cases h
theorem parse_walk11 {c : Nat → Int} {s : ByteArray} {f g x f' g' : Int} (hk : known c) (h : WalkR s f g x true) (hR : RookR c s f' g' false) : ParseEnd c s f g x 0 false 0 := by
  rcases h with ⟨_, a, b, k, ha, hb, hne, hk2, rfl, rfl, rfl, rfl⟩ | ⟨h, _⟩
  · rcases hR with ⟨h, _⟩ | ⟨_, h⟩
    · cases h
    · exact .inl ⟨rfl, hk, ⟨by omega, by omega⟩, .inr (.inr ⟨rfl, by omega, by omega, rfl, by simp, fun ⟨a, b, e⟩ => h a b e⟩)⟩
  · cases h
theorem parse_none {c : Nat → Int} {s : ByteArray} {f g x f' g' g2 y2 : Int} (hk : known c) (hW : WalkR s f g x false) (hD : DropR s g2 y2 false) (hR : RookR c s f' g' false) : ParseEnd c s 0 0 0 0 false 5 := by
  refine .inr ⟨⟨rfl, rfl, rfl, rfl, rfl⟩, .inr ⟨rfl, hk, fun f g x y z hs => ?_⟩⟩
  obtain ⟨_, ⟨hf, hg⟩, hs⟩ := hs
  rcases hs with ⟨h1, _, _, _, e⟩ | ⟨_, _, _, _, e⟩ | ⟨_, h1, h2, _, e, _⟩
  · rcases hD with ⟨h, _⟩ | ⟨_, h⟩
    · cases h
    · exact h g.toNat y.toNat (by omega) (by omega) e
  · rcases hR with ⟨h, _⟩ | ⟨_, h⟩
    · cases h
    · exact h _ _ e
  · rcases hW with ⟨h, _⟩ | ⟨_, h⟩
    · cases h
    · exact h f.toNat g.toNat x.toNat (by omega) (by omega) (by omega) (by omega) e
end N

set_option maxRecDepth 100000 in
theorem mvParse_1 (c : Nat → Int) (s : ByteArray) (p0 : Nat) (p1 : Nat) (f g x y : Int) (z ok : Bool) (hC : ∀ W, Calls Try.prog 8 #[.agg (posC c), .string s] W fun e w' => e = .returned (.tuple #[.agg (movC f g x y z), .bool ok]) ∧ Below W.heap.size W w') (w : World) (hp : PosAt w p0 c) (hs : RowAt w p1 9 #[.string s]) :
    Calls Try.prog 7 #[.pointer (some ⟨p0, 0, none⟩), .pointer (some ⟨p1, 0, none⟩)] w fun e w' => e = .returned (.tuple #[.agg (movC f g x y z), .bool ok]) ∧ Below w.heap.size w w' := by
  have HC := Lib.hid hC
  clear hC
  have hb0 : Below w.heap.size w (w.alloc (.cells #[.int .i8 0, .int .i8 0, .int .u8 0, .int .u8 0, .bool false] 33)) := (Below.refl _ _).alloc (Nat.le_refl _) _
  have hR := RowAt.new w #[.int .i8 0, .int .i8 0, .int .u8 0, .int .u8 0, .bool false] 33
  have hS := hs.alloc (.cells #[.int .i8 0, .int .i8 0, .int .u8 0, .int .u8 0, .bool false] 33)
  have hA := hp.alloc (.cells #[.int .i8 0, .int .i8 0, .int .u8 0, .int .u8 0, .bool false] 33)
  have s0 := hS.cell 0
  rw [show (#[.string s] : Array Value)[0]? = some (.string s) from rfl] at s0
  have H0 := Lib.hid (And.intro hA (And.intro hR hb0))
  clear hb0 hR hS hs hA hp
  go_enter Try.func7, Try.ntmps7
  go_wp2_with (first
    | ((with_reducible refine wp_load_box rfl _ rfl ?_); refine ⟨_, c, rfl, H0.out.1, ?_⟩)
    | (go_at_call 8; (with_reducible refine (HC.out _).mono ?_); rintro e w1 ⟨rfl, hb1⟩; have H1 := Lib.hid (And.intro (H0.out.2.1.below hb1) (below_next H0.out.2.2 hb1)); clear hb1)
    | ((with_reducible refine wp_store_row' rfl 33 _ _ rfl ?_); refine ⟨w.heap.size, 33, movC f g x y z, rfl, rfl, ⟨_, H1.out.1.heap, (by kernel_rfl)⟩, Try.info_mvB _ _ _ _ _, Try.one_mvB _ _ _ _ _, ?_⟩; intro W9 hP9 hq9; have HB := Lib.hid (hP9.below H1.out.2 (Nat.le_refl _))))
  exact bodyPost_ret (results_mv_tmp Try.results7 _ _ w.heap.size 33 _ (0, 0) _ rfl hq9.heap Try.underlying33 rfl (Try.info_mvB _ _ _ _ _)) rfl ⟨rfl, HB.out⟩

set_option maxRecDepth 100000 in
theorem mvParse_2 (s : ByteArray) (p1 : Nat) (f g x y : Int) (z ok : Bool) (hC : ∀ W, Calls Try.prog 10 #[.string s] W fun e w' => e = .returned (.tuple #[.agg (movC f g x y z), .bool ok]) ∧ Below W.heap.size W w') (w : World) (hs : RowAt w p1 9 #[.string s]) :
    Calls Try.prog 9 #[.pointer (some ⟨p1, 0, none⟩)] w fun e w' => e = .returned (.tuple #[.agg (movC f g x y z), .bool ok]) ∧ Below w.heap.size w w' := by
  have HC := Lib.hid hC
  clear hC
  have hb0 : Below w.heap.size w (w.alloc (.cells #[.int .i8 0, .int .i8 0, .int .u8 0, .int .u8 0, .bool false] 33)) := (Below.refl _ _).alloc (Nat.le_refl _) _
  have hR := RowAt.new w #[.int .i8 0, .int .i8 0, .int .u8 0, .int .u8 0, .bool false] 33
  have hS := hs.alloc (.cells #[.int .i8 0, .int .i8 0, .int .u8 0, .int .u8 0, .bool false] 33)
  
  have s0 := hS.cell 0
  rw [show (#[.string s] : Array Value)[0]? = some (.string s) from rfl] at s0
  have H0 := Lib.hid (And.intro hS (And.intro hR hb0))
  clear hb0 hR hS hs 
  go_enter Try.func9, Try.ntmps9
  go_wp2_with (first
    | (go_at_call 10; (with_reducible refine (HC.out _).mono ?_); rintro e w1 ⟨rfl, hb1⟩; have H1 := Lib.hid (And.intro (H0.out.2.1.below hb1) (below_next H0.out.2.2 hb1)); clear hb1)
    | ((with_reducible refine wp_store_row' rfl 33 _ _ rfl ?_); refine ⟨w.heap.size, 33, movC f g x y z, rfl, rfl, ⟨_, H1.out.1.heap, (by kernel_rfl)⟩, Try.info_mvB _ _ _ _ _, Try.one_mvB _ _ _ _ _, ?_⟩; intro W9 hP9 hq9; have HB := Lib.hid (hP9.below H1.out.2 (Nat.le_refl _))))
  exact bodyPost_ret (results_mv_tmp Try.results9 _ _ w.heap.size 33 _ (0, 0) _ rfl hq9.heap Try.underlying33 rfl (Try.info_mvB _ _ _ _ _)) rfl ⟨rfl, HB.out⟩

set_option maxRecDepth 100000 in
theorem mvParse_3 (s : ByteArray) (p1 : Nat) (f g x y : Int) (z ok : Bool) (hC : ∀ W, Calls Try.prog 12 #[.string s] W fun e w' => e = .returned (.tuple #[.agg (movC f g x y z), .bool ok]) ∧ Below W.heap.size W w') (w : World) (hs : RowAt w p1 9 #[.string s]) :
    Calls Try.prog 11 #[.pointer (some ⟨p1, 0, none⟩)] w fun e w' => e = .returned (.tuple #[.agg (movC f g x y z), .bool ok]) ∧ Below w.heap.size w w' := by
  have HC := Lib.hid hC
  clear hC
  have hb0 : Below w.heap.size w (w.alloc (.cells #[.int .i8 0, .int .i8 0, .int .u8 0, .int .u8 0, .bool false] 33)) := (Below.refl _ _).alloc (Nat.le_refl _) _
  have hR := RowAt.new w #[.int .i8 0, .int .i8 0, .int .u8 0, .int .u8 0, .bool false] 33
  have hS := hs.alloc (.cells #[.int .i8 0, .int .i8 0, .int .u8 0, .int .u8 0, .bool false] 33)
  
  have s0 := hS.cell 0
  rw [show (#[.string s] : Array Value)[0]? = some (.string s) from rfl] at s0
  have H0 := Lib.hid (And.intro hS (And.intro hR hb0))
  clear hb0 hR hS hs 
  go_enter Try.func11, Try.ntmps11
  go_wp2_with (first
    | (go_at_call 12; (with_reducible refine (HC.out _).mono ?_); rintro e w1 ⟨rfl, hb1⟩; have H1 := Lib.hid (And.intro (H0.out.2.1.below hb1) (below_next H0.out.2.2 hb1)); clear hb1)
    | ((with_reducible refine wp_store_row' rfl 33 _ _ rfl ?_); refine ⟨w.heap.size, 33, movC f g x y z, rfl, rfl, ⟨_, H1.out.1.heap, (by kernel_rfl)⟩, Try.info_mvB _ _ _ _ _, Try.one_mvB _ _ _ _ _, ?_⟩; intro W9 hP9 hq9; have HB := Lib.hid (hP9.below H1.out.2 (Nat.le_refl _))))
  exact bodyPost_ret (results_mv_tmp Try.results11 _ _ w.heap.size 33 _ (0, 0) _ rfl hq9.heap Try.underlying33 rfl (Try.info_mvB _ _ _ _ _)) rfl ⟨rfl, HB.out⟩

/-- A position, a text, a move's box: a call's first three. -/
structure PsAt (w : World) (c : Nat → Int) (s : ByteArray) (W : World) : Prop where
  p : PosAt W w.heap.size c
  s : RowAt W (w.heap.size + 1) 9 #[.string s]
  res : RowAt W (w.heap.size + 2) 33 #[.int .i8 0, .int .i8 0, .int .u8 0, .int .u8 0, .bool false]
  below : Below w.heap.size w W
theorem PsAt.next {w W W' : World} {c : Nat → Int} {s : ByteArray} (h : PsAt w c s W) (hb : Below W.heap.size W W') : PsAt w c s W' :=
  ⟨h.p.below hb, h.s.below hb, h.res.below hb, below_next h.below hb⟩
theorem PsAt.other {w W W' : World} {c : Nat → Int} {s : ByteArray} {e : Nat} (h : PsAt w c s W) (hP : Put e W W') (he : w.heap.size + 2 < e) : PsAt w c s W' :=
  ⟨hP.pos h.p (by omega), hP.row h.s (by omega), hP.row h.res (by omega), hP.below h.below (by omega)⟩
theorem PsAt.start (w : World) (c : Nat → Int) (s : ByteArray) : PsAt w c s (((w.alloc (.cells (posC c) 31)).alloc (.cells #[.string s] 9)).alloc (.cells #[.int .i8 0, .int .i8 0, .int .u8 0, .int .u8 0, .bool false] 33)) := by
  have h1 := RowAt.new (w.alloc (.cells (posC c) 31)) #[.string s] 9
  have h2 := RowAt.new ((w.alloc (.cells (posC c) 31)).alloc (.cells #[.string s] 9)) #[.int .i8 0, .int .i8 0, .int .u8 0, .int .u8 0, .bool false] 33
  rw [World.size_alloc] at h1
  rw [World.size_alloc, World.size_alloc] at h2
  exact ⟨((PosAt.new w c).alloc _).alloc _, h1.alloc _, h2, (((Below.refl _ _).alloc (Nat.le_refl _) _).alloc (by simp) _).alloc (by simp; omega) _⟩

set_option maxRecDepth 100000 in
set_option maxHeartbeats 4000000 in
theorem mvParse_fix (c : Nat → Int) (s : ByteArray) (hc : PosOk c) (hs : s.size ≤ 9223372036854775807) : ∃ (f g x y : Int) (z : Bool) (e : Int), N.ParseEnd c s f g x y z e ∧ ∀ w, Calls Try.prog 4 #[.agg (posC c), .string s] w fun r w' => r = .returned (.tuple #[.agg (movC f g x y z), .int .i64 e]) ∧ Below w.heap.size w w' := by
  have HKn : Hid (∀ W, Calls Try.prog 6 #[.agg (posC c)] W fun e w' => e = .returned (.bool (N.kn c)) ∧ Below W.heap.size W w') := Lib.hid (fun W => mvknown_any c W)
  have ik := N.kn_iff hc
  cases kn : N.kn c
  · rw [kn] at HKn
    refine ⟨0, 0, 0, 0, false, 2, .inr ⟨⟨rfl, rfl, rfl, rfl, rfl⟩, .inl ⟨rfl, fun h => by rw [ik.2 h] at kn; cases kn⟩⟩, fun w => ?_⟩
    clear ik kn
    have h0 : PsAt w c s (((w.alloc (.cells (posC c) 31)).alloc (.cells #[.string s] 9)).alloc (.cells #[.int .i8 0, .int .i8 0, .int .u8 0, .int .u8 0, .bool false] 33)) := PsAt.start w c s
    have H0 := Lib.hid h0
    clear h0
    go_enter Try.func4, Try.ntmps4
    go_wp2_with (first
      | ((with_reducible refine wp_load_box rfl _ rfl ?_); refine ⟨_, c, rfl, H0.out.p, ?_⟩)
      | (go_at_call 6; (with_reducible refine (HKn.out _).mono ?_); rintro e w1 ⟨rfl, hb1⟩; have H1 := Lib.hid (H0.out.next hb1); clear hb1)
      | ((with_reducible refine wp_store_row' rfl 33 _ _ rfl ?_); refine ⟨w.heap.size + 2, 33, movC 0 0 0 0 false, rfl, rfl, ⟨_, H1.out.res.heap, (by kernel_rfl)⟩, Try.info_mvB _ _ _ _ _, Try.one_mvB _ _ _ _ _, ?_⟩; intro W9 hP9 hq9; have HB := Lib.hid (hP9.below H1.out.below (by omega))))
    exact bodyPost_ret (results_mv_tmp Try.results4 _ _ (w.heap.size + 2) 33 _ (0, 0) _ rfl hq9.heap Try.underlying33 rfl (Try.info_mvB _ _ _ _ _)) rfl ⟨rfl, HB.out⟩
  · rw [kn] at HKn
    have hk := ik.1 kn
    clear ik kn
    obtain ⟨f1, g1, z1, k1, hR, hz, hRC⟩ := mvrook_fix c s hk hs
    obtain ⟨g2, y2, k2, hD, hDC⟩ := mvdrop_fix s hs
    obtain ⟨f3, g3, x3, k3, hW, hWC⟩ := mvwalk_fix s hs
    have HC0 := Lib.hid (fun (p0 p1 : Nat) w h1 h2 => mvParse_1 c s p0 p1 f1 g1 0 0 z1 k1 hRC w h1 h2)
    have HC1 := Lib.hid (fun (p1 : Nat) w h2 => mvParse_2 s p1 g2 g2 0 y2 false k2 hDC w h2)
    have HC2 := Lib.hid (fun (p1 : Nat) w h2 => mvParse_3 s p1 f3 g3 x3 0 false k3 hWC w h2)
    clear hRC hDC hWC
    cases k1
    · clear hz
      cases k2
      · cases k3
        · refine ⟨0, 0, 0, 0, false, 5, N.parse_none hk hW hD hR, fun w => ?_⟩
          clear hR hD hW hk hs hc
          have h0 : PsAt w c s (((w.alloc (.cells (posC c) 31)).alloc (.cells #[.string s] 9)).alloc (.cells #[.int .i8 0, .int .i8 0, .int .u8 0, .int .u8 0, .bool false] 33)) := PsAt.start w c s
          have H0 := Lib.hid h0
          clear h0
          go_enter Try.func4, Try.ntmps4
          go_wp2_with (first
            | ((with_reducible refine wp_load_box rfl _ rfl ?_); refine ⟨_, c, rfl, H0.out.p, ?_⟩)
            | (go_at_call 6; (with_reducible refine (HKn.out _).mono ?_); rintro e w1 ⟨rfl, hb1⟩; have H1 := Lib.hid (H0.out.next hb1); clear hb1))
          have h2 := RowAt.new w1 #[.func (Fn.func 7) #[] #[.pointer (some ⟨w.heap.size, 0, none⟩), .pointer (some ⟨w.heap.size + 1, 0, none⟩)], .func (Fn.func 9) #[] #[.pointer (some ⟨w.heap.size + 1, 0, none⟩)], .func (Fn.func 11) #[] #[.pointer (some ⟨w.heap.size + 1, 0, none⟩)]] 43
          have h1 := H1.out.next ((Below.refl _ _).alloc (Nat.le_refl _) (.cells #[.func (Fn.func 7) #[] #[.pointer (some ⟨w.heap.size, 0, none⟩), .pointer (some ⟨w.heap.size + 1, 0, none⟩)], .func (Fn.func 9) #[] #[.pointer (some ⟨w.heap.size + 1, 0, none⟩)], .func (Fn.func 11) #[] #[.pointer (some ⟨w.heap.size + 1, 0, none⟩)]] 43))
          have h3 : w.heap.size + 2 < w1.heap.size := H1.out.res.lt
          generalize w1.alloc (.cells #[.func (Fn.func 7) #[] #[.pointer (some ⟨w.heap.size, 0, none⟩), .pointer (some ⟨w.heap.size + 1, 0, none⟩)], .func (Fn.func 9) #[] #[.pointer (some ⟨w.heap.size + 1, 0, none⟩)], .func (Fn.func 11) #[] #[.pointer (some ⟨w.heap.size + 1, 0, none⟩)]] 43) = W2 at h1 h2 ⊢
          generalize w1.heap.size = b at h2 h3 ⊢
          have HG := Lib.hid (And.intro h1 (And.intro h2 h3))
          have q0 := h2.cell 0
          rw [show (#[.func (Fn.func 7) #[] #[.pointer (some ⟨w.heap.size, 0, none⟩), .pointer (some ⟨w.heap.size + 1, 0, none⟩)], .func (Fn.func 9) #[] #[.pointer (some ⟨w.heap.size + 1, 0, none⟩)], .func (Fn.func 11) #[] #[.pointer (some ⟨w.heap.size + 1, 0, none⟩)]] : Array Value)[0]? = some (.func (Fn.func 7) #[] #[.pointer (some ⟨w.heap.size, 0, none⟩), .pointer (some ⟨w.heap.size + 1, 0, none⟩)]) from rfl] at q0
          have q1 := h2.cell 1
          rw [show (#[.func (Fn.func 7) #[] #[.pointer (some ⟨w.heap.size, 0, none⟩), .pointer (some ⟨w.heap.size + 1, 0, none⟩)], .func (Fn.func 9) #[] #[.pointer (some ⟨w.heap.size + 1, 0, none⟩)], .func (Fn.func 11) #[] #[.pointer (some ⟨w.heap.size + 1, 0, none⟩)]] : Array Value)[1]? = some (.func (Fn.func 9) #[] #[.pointer (some ⟨w.heap.size + 1, 0, none⟩)]) from rfl] at q1
          have q2 := h2.cell 2
          rw [show (#[.func (Fn.func 7) #[] #[.pointer (some ⟨w.heap.size, 0, none⟩), .pointer (some ⟨w.heap.size + 1, 0, none⟩)], .func (Fn.func 9) #[] #[.pointer (some ⟨w.heap.size + 1, 0, none⟩)], .func (Fn.func 11) #[] #[.pointer (some ⟨w.heap.size + 1, 0, none⟩)]] : Array Value)[2]? = some (.func (Fn.func 11) #[] #[.pointer (some ⟨w.heap.size + 1, 0, none⟩)]) from rfl] at q2
          clear h1 h2 h3 H1 H0 HKn
          refine wp_loop_rounds 4 ?_
          rw [rounds_succ]
          go_wp2_with (first
            | (go_at_call 7; (with_reducible refine (HC0.out _ _ _ HG.out.1.p HG.out.1.s).mono ?_); rintro e wc0 ⟨rfl, hb⟩; have HW0 := Lib.hid (And.intro (HG.out.1.next hb) (And.intro (HG.out.2.1.below hb) (And.intro HG.out.2.2 (Nat.lt_of_lt_of_le HG.out.2.1.lt hb.size)))); clear hb)
            | ((with_reducible refine wp_store_row' rfl 33 _ _ rfl ?_); refine ⟨wc0.heap.size, 33, movC f1 g1 0 0 z1, rfl, rfl, ⟨_, heap_alloc_new _ _, (by kernel_rfl)⟩, Try.info_mvB _ _ _ _ _, Try.one_mvB _ _ _ _ _, ?_⟩; intro V0 hP hq; have HV0 := Lib.hid (And.intro ((HW0.out.1.next ((Below.refl _ _).alloc (Nat.le_refl _) _)).other hP (Nat.lt_trans HW0.out.2.2.1 HW0.out.2.2.2)) (And.intro (hP.row (HW0.out.2.1.alloc _) (Nat.ne_of_lt HW0.out.2.2.2)) (And.intro HW0.out.2.2.1 hq))); have q0 := HV0.out.2.1.cell 0; rw [show (#[.func (Fn.func 7) #[] #[.pointer (some ⟨w.heap.size, 0, none⟩), .pointer (some ⟨w.heap.size + 1, 0, none⟩)], .func (Fn.func 9) #[] #[.pointer (some ⟨w.heap.size + 1, 0, none⟩)], .func (Fn.func 11) #[] #[.pointer (some ⟨w.heap.size + 1, 0, none⟩)]] : Array Value)[0]? = some (.func (Fn.func 7) #[] #[.pointer (some ⟨w.heap.size, 0, none⟩), .pointer (some ⟨w.heap.size + 1, 0, none⟩)]) from rfl] at q0; have q1 := HV0.out.2.1.cell 1; rw [show (#[.func (Fn.func 7) #[] #[.pointer (some ⟨w.heap.size, 0, none⟩), .pointer (some ⟨w.heap.size + 1, 0, none⟩)], .func (Fn.func 9) #[] #[.pointer (some ⟨w.heap.size + 1, 0, none⟩)], .func (Fn.func 11) #[] #[.pointer (some ⟨w.heap.size + 1, 0, none⟩)]] : Array Value)[1]? = some (.func (Fn.func 9) #[] #[.pointer (some ⟨w.heap.size + 1, 0, none⟩)]) from rfl] at q1; have q2 := HV0.out.2.1.cell 2; rw [show (#[.func (Fn.func 7) #[] #[.pointer (some ⟨w.heap.size, 0, none⟩), .pointer (some ⟨w.heap.size + 1, 0, none⟩)], .func (Fn.func 9) #[] #[.pointer (some ⟨w.heap.size + 1, 0, none⟩)], .func (Fn.func 11) #[] #[.pointer (some ⟨w.heap.size + 1, 0, none⟩)]] : Array Value)[2]? = some (.func (Fn.func 11) #[] #[.pointer (some ⟨w.heap.size + 1, 0, none⟩)]) from rfl] at q2; clear hP hq)
            | ((with_reducible refine wp_load_row' rfl 33 _ rfl Try.underlying33 rfl ?_); refine ⟨_, _, _, rfl, HV0.out.2.2.2, Try.info_mvB _ _ _ _ _, ?_⟩)
            | ((with_reducible refine wp_store_row' rfl 33 _ _ rfl ?_); refine ⟨w.heap.size + 2, 33, movC f1 g1 0 0 z1, rfl, rfl, ⟨_, HV0.out.1.res.heap, (by kernel_rfl)⟩, Try.info_mvB _ _ _ _ _, Try.one_mvB _ _ _ _ _, ?_⟩; intro W9 hP9 hq9; have HB := Lib.hid (hP9.below HV0.out.1.below (by omega))))
          have HX0 := Lib.hid (And.intro HV0.out.1 (And.intro HV0.out.2.1 HV0.out.2.2.1))
          rw [rounds_succ]
          go_wp2_with (first
            | (go_at_call 9; (with_reducible refine (HC1.out _ _ HX0.out.1.s).mono ?_); rintro e wc1 ⟨rfl, hb⟩; have HW1 := Lib.hid (And.intro (HX0.out.1.next hb) (And.intro (HX0.out.2.1.below hb) (And.intro HX0.out.2.2 (Nat.lt_of_lt_of_le HX0.out.2.1.lt hb.size)))); clear hb)
            | ((with_reducible refine wp_store_row' rfl 33 _ _ rfl ?_); refine ⟨wc1.heap.size, 33, movC g2 g2 0 y2 false, rfl, rfl, ⟨_, heap_alloc_new _ _, (by kernel_rfl)⟩, Try.info_mvB _ _ _ _ _, Try.one_mvB _ _ _ _ _, ?_⟩; intro V1 hP hq; have HV1 := Lib.hid (And.intro ((HW1.out.1.next ((Below.refl _ _).alloc (Nat.le_refl _) _)).other hP (Nat.lt_trans HW1.out.2.2.1 HW1.out.2.2.2)) (And.intro (hP.row (HW1.out.2.1.alloc _) (Nat.ne_of_lt HW1.out.2.2.2)) (And.intro HW1.out.2.2.1 hq))); have q0 := HV1.out.2.1.cell 0; rw [show (#[.func (Fn.func 7) #[] #[.pointer (some ⟨w.heap.size, 0, none⟩), .pointer (some ⟨w.heap.size + 1, 0, none⟩)], .func (Fn.func 9) #[] #[.pointer (some ⟨w.heap.size + 1, 0, none⟩)], .func (Fn.func 11) #[] #[.pointer (some ⟨w.heap.size + 1, 0, none⟩)]] : Array Value)[0]? = some (.func (Fn.func 7) #[] #[.pointer (some ⟨w.heap.size, 0, none⟩), .pointer (some ⟨w.heap.size + 1, 0, none⟩)]) from rfl] at q0; have q1 := HV1.out.2.1.cell 1; rw [show (#[.func (Fn.func 7) #[] #[.pointer (some ⟨w.heap.size, 0, none⟩), .pointer (some ⟨w.heap.size + 1, 0, none⟩)], .func (Fn.func 9) #[] #[.pointer (some ⟨w.heap.size + 1, 0, none⟩)], .func (Fn.func 11) #[] #[.pointer (some ⟨w.heap.size + 1, 0, none⟩)]] : Array Value)[1]? = some (.func (Fn.func 9) #[] #[.pointer (some ⟨w.heap.size + 1, 0, none⟩)]) from rfl] at q1; have q2 := HV1.out.2.1.cell 2; rw [show (#[.func (Fn.func 7) #[] #[.pointer (some ⟨w.heap.size, 0, none⟩), .pointer (some ⟨w.heap.size + 1, 0, none⟩)], .func (Fn.func 9) #[] #[.pointer (some ⟨w.heap.size + 1, 0, none⟩)], .func (Fn.func 11) #[] #[.pointer (some ⟨w.heap.size + 1, 0, none⟩)]] : Array Value)[2]? = some (.func (Fn.func 11) #[] #[.pointer (some ⟨w.heap.size + 1, 0, none⟩)]) from rfl] at q2; clear hP hq)
            | ((with_reducible refine wp_load_row' rfl 33 _ rfl Try.underlying33 rfl ?_); refine ⟨_, _, _, rfl, HV1.out.2.2.2, Try.info_mvB _ _ _ _ _, ?_⟩)
            | ((with_reducible refine wp_store_row' rfl 33 _ _ rfl ?_); refine ⟨w.heap.size + 2, 33, movC g2 g2 0 y2 false, rfl, rfl, ⟨_, HV1.out.1.res.heap, (by kernel_rfl)⟩, Try.info_mvB _ _ _ _ _, Try.one_mvB _ _ _ _ _, ?_⟩; intro W9 hP9 hq9; have HB := Lib.hid (hP9.below HV1.out.1.below (by omega))))
          have HX1 := Lib.hid (And.intro HV1.out.1 (And.intro HV1.out.2.1 HV1.out.2.2.1))
          rw [rounds_succ]
          go_wp2_with (first
            | (go_at_call 11; (with_reducible refine (HC2.out _ _ HX1.out.1.s).mono ?_); rintro e wc2 ⟨rfl, hb⟩; have HW2 := Lib.hid (And.intro (HX1.out.1.next hb) (And.intro (HX1.out.2.1.below hb) (And.intro HX1.out.2.2 (Nat.lt_of_lt_of_le HX1.out.2.1.lt hb.size)))); clear hb)
            | ((with_reducible refine wp_store_row' rfl 33 _ _ rfl ?_); refine ⟨wc2.heap.size, 33, movC f3 g3 x3 0 false, rfl, rfl, ⟨_, heap_alloc_new _ _, (by kernel_rfl)⟩, Try.info_mvB _ _ _ _ _, Try.one_mvB _ _ _ _ _, ?_⟩; intro V2 hP hq; have HV2 := Lib.hid (And.intro ((HW2.out.1.next ((Below.refl _ _).alloc (Nat.le_refl _) _)).other hP (Nat.lt_trans HW2.out.2.2.1 HW2.out.2.2.2)) (And.intro (hP.row (HW2.out.2.1.alloc _) (Nat.ne_of_lt HW2.out.2.2.2)) (And.intro HW2.out.2.2.1 hq))); have q0 := HV2.out.2.1.cell 0; rw [show (#[.func (Fn.func 7) #[] #[.pointer (some ⟨w.heap.size, 0, none⟩), .pointer (some ⟨w.heap.size + 1, 0, none⟩)], .func (Fn.func 9) #[] #[.pointer (some ⟨w.heap.size + 1, 0, none⟩)], .func (Fn.func 11) #[] #[.pointer (some ⟨w.heap.size + 1, 0, none⟩)]] : Array Value)[0]? = some (.func (Fn.func 7) #[] #[.pointer (some ⟨w.heap.size, 0, none⟩), .pointer (some ⟨w.heap.size + 1, 0, none⟩)]) from rfl] at q0; have q1 := HV2.out.2.1.cell 1; rw [show (#[.func (Fn.func 7) #[] #[.pointer (some ⟨w.heap.size, 0, none⟩), .pointer (some ⟨w.heap.size + 1, 0, none⟩)], .func (Fn.func 9) #[] #[.pointer (some ⟨w.heap.size + 1, 0, none⟩)], .func (Fn.func 11) #[] #[.pointer (some ⟨w.heap.size + 1, 0, none⟩)]] : Array Value)[1]? = some (.func (Fn.func 9) #[] #[.pointer (some ⟨w.heap.size + 1, 0, none⟩)]) from rfl] at q1; have q2 := HV2.out.2.1.cell 2; rw [show (#[.func (Fn.func 7) #[] #[.pointer (some ⟨w.heap.size, 0, none⟩), .pointer (some ⟨w.heap.size + 1, 0, none⟩)], .func (Fn.func 9) #[] #[.pointer (some ⟨w.heap.size + 1, 0, none⟩)], .func (Fn.func 11) #[] #[.pointer (some ⟨w.heap.size + 1, 0, none⟩)]] : Array Value)[2]? = some (.func (Fn.func 11) #[] #[.pointer (some ⟨w.heap.size + 1, 0, none⟩)]) from rfl] at q2; clear hP hq)
            | ((with_reducible refine wp_load_row' rfl 33 _ rfl Try.underlying33 rfl ?_); refine ⟨_, _, _, rfl, HV2.out.2.2.2, Try.info_mvB _ _ _ _ _, ?_⟩)
            | ((with_reducible refine wp_store_row' rfl 33 _ _ rfl ?_); refine ⟨w.heap.size + 2, 33, movC f3 g3 x3 0 false, rfl, rfl, ⟨_, HV2.out.1.res.heap, (by kernel_rfl)⟩, Try.info_mvB _ _ _ _ _, Try.one_mvB _ _ _ _ _, ?_⟩; intro W9 hP9 hq9; have HB := Lib.hid (hP9.below HV2.out.1.below (by omega))))
          have HX2 := Lib.hid (And.intro HV2.out.1 (And.intro HV2.out.2.1 HV2.out.2.2.1))
          rw [rounds_succ]
          go_wp2_with ((with_reducible refine wp_store_row' rfl 33 _ _ rfl ?_); refine ⟨w.heap.size + 2, 33, movC 0 0 0 0 false, rfl, rfl, ⟨_, HX2.out.1.res.heap, (by kernel_rfl)⟩, Try.info_mvB _ _ _ _ _, Try.one_mvB _ _ _ _ _, ?_⟩; intro W9 hP9 hq9; have HB := Lib.hid (hP9.below HX2.out.1.below (by omega)))
          exact bodyPost_ret (results_mv_tmp Try.results4 _ _ (w.heap.size + 2) 33 _ (0, 0) _ rfl hq9.heap Try.underlying33 rfl (Try.info_mvB _ _ _ _ _)) rfl ⟨rfl, HB.out⟩
        · refine ⟨f3, g3, x3, 0, false, 0, N.parse_walk11 hk hW hR, fun w => ?_⟩
          clear hR hD hW hk hs hc
          have h0 : PsAt w c s (((w.alloc (.cells (posC c) 31)).alloc (.cells #[.string s] 9)).alloc (.cells #[.int .i8 0, .int .i8 0, .int .u8 0, .int .u8 0, .bool false] 33)) := PsAt.start w c s
          have H0 := Lib.hid h0
          clear h0
          go_enter Try.func4, Try.ntmps4
          go_wp2_with (first
            | ((with_reducible refine wp_load_box rfl _ rfl ?_); refine ⟨_, c, rfl, H0.out.p, ?_⟩)
            | (go_at_call 6; (with_reducible refine (HKn.out _).mono ?_); rintro e w1 ⟨rfl, hb1⟩; have H1 := Lib.hid (H0.out.next hb1); clear hb1))
          have h2 := RowAt.new w1 #[.func (Fn.func 7) #[] #[.pointer (some ⟨w.heap.size, 0, none⟩), .pointer (some ⟨w.heap.size + 1, 0, none⟩)], .func (Fn.func 9) #[] #[.pointer (some ⟨w.heap.size + 1, 0, none⟩)], .func (Fn.func 11) #[] #[.pointer (some ⟨w.heap.size + 1, 0, none⟩)]] 43
          have h1 := H1.out.next ((Below.refl _ _).alloc (Nat.le_refl _) (.cells #[.func (Fn.func 7) #[] #[.pointer (some ⟨w.heap.size, 0, none⟩), .pointer (some ⟨w.heap.size + 1, 0, none⟩)], .func (Fn.func 9) #[] #[.pointer (some ⟨w.heap.size + 1, 0, none⟩)], .func (Fn.func 11) #[] #[.pointer (some ⟨w.heap.size + 1, 0, none⟩)]] 43))
          have h3 : w.heap.size + 2 < w1.heap.size := H1.out.res.lt
          generalize w1.alloc (.cells #[.func (Fn.func 7) #[] #[.pointer (some ⟨w.heap.size, 0, none⟩), .pointer (some ⟨w.heap.size + 1, 0, none⟩)], .func (Fn.func 9) #[] #[.pointer (some ⟨w.heap.size + 1, 0, none⟩)], .func (Fn.func 11) #[] #[.pointer (some ⟨w.heap.size + 1, 0, none⟩)]] 43) = W2 at h1 h2 ⊢
          generalize w1.heap.size = b at h2 h3 ⊢
          have HG := Lib.hid (And.intro h1 (And.intro h2 h3))
          have q0 := h2.cell 0
          rw [show (#[.func (Fn.func 7) #[] #[.pointer (some ⟨w.heap.size, 0, none⟩), .pointer (some ⟨w.heap.size + 1, 0, none⟩)], .func (Fn.func 9) #[] #[.pointer (some ⟨w.heap.size + 1, 0, none⟩)], .func (Fn.func 11) #[] #[.pointer (some ⟨w.heap.size + 1, 0, none⟩)]] : Array Value)[0]? = some (.func (Fn.func 7) #[] #[.pointer (some ⟨w.heap.size, 0, none⟩), .pointer (some ⟨w.heap.size + 1, 0, none⟩)]) from rfl] at q0
          have q1 := h2.cell 1
          rw [show (#[.func (Fn.func 7) #[] #[.pointer (some ⟨w.heap.size, 0, none⟩), .pointer (some ⟨w.heap.size + 1, 0, none⟩)], .func (Fn.func 9) #[] #[.pointer (some ⟨w.heap.size + 1, 0, none⟩)], .func (Fn.func 11) #[] #[.pointer (some ⟨w.heap.size + 1, 0, none⟩)]] : Array Value)[1]? = some (.func (Fn.func 9) #[] #[.pointer (some ⟨w.heap.size + 1, 0, none⟩)]) from rfl] at q1
          have q2 := h2.cell 2
          rw [show (#[.func (Fn.func 7) #[] #[.pointer (some ⟨w.heap.size, 0, none⟩), .pointer (some ⟨w.heap.size + 1, 0, none⟩)], .func (Fn.func 9) #[] #[.pointer (some ⟨w.heap.size + 1, 0, none⟩)], .func (Fn.func 11) #[] #[.pointer (some ⟨w.heap.size + 1, 0, none⟩)]] : Array Value)[2]? = some (.func (Fn.func 11) #[] #[.pointer (some ⟨w.heap.size + 1, 0, none⟩)]) from rfl] at q2
          clear h1 h2 h3 H1 H0 HKn
          refine wp_loop_rounds 4 ?_
          rw [rounds_succ]
          go_wp2_with (first
            | (go_at_call 7; (with_reducible refine (HC0.out _ _ _ HG.out.1.p HG.out.1.s).mono ?_); rintro e wc0 ⟨rfl, hb⟩; have HW0 := Lib.hid (And.intro (HG.out.1.next hb) (And.intro (HG.out.2.1.below hb) (And.intro HG.out.2.2 (Nat.lt_of_lt_of_le HG.out.2.1.lt hb.size)))); clear hb)
            | ((with_reducible refine wp_store_row' rfl 33 _ _ rfl ?_); refine ⟨wc0.heap.size, 33, movC f1 g1 0 0 z1, rfl, rfl, ⟨_, heap_alloc_new _ _, (by kernel_rfl)⟩, Try.info_mvB _ _ _ _ _, Try.one_mvB _ _ _ _ _, ?_⟩; intro V0 hP hq; have HV0 := Lib.hid (And.intro ((HW0.out.1.next ((Below.refl _ _).alloc (Nat.le_refl _) _)).other hP (Nat.lt_trans HW0.out.2.2.1 HW0.out.2.2.2)) (And.intro (hP.row (HW0.out.2.1.alloc _) (Nat.ne_of_lt HW0.out.2.2.2)) (And.intro HW0.out.2.2.1 hq))); have q0 := HV0.out.2.1.cell 0; rw [show (#[.func (Fn.func 7) #[] #[.pointer (some ⟨w.heap.size, 0, none⟩), .pointer (some ⟨w.heap.size + 1, 0, none⟩)], .func (Fn.func 9) #[] #[.pointer (some ⟨w.heap.size + 1, 0, none⟩)], .func (Fn.func 11) #[] #[.pointer (some ⟨w.heap.size + 1, 0, none⟩)]] : Array Value)[0]? = some (.func (Fn.func 7) #[] #[.pointer (some ⟨w.heap.size, 0, none⟩), .pointer (some ⟨w.heap.size + 1, 0, none⟩)]) from rfl] at q0; have q1 := HV0.out.2.1.cell 1; rw [show (#[.func (Fn.func 7) #[] #[.pointer (some ⟨w.heap.size, 0, none⟩), .pointer (some ⟨w.heap.size + 1, 0, none⟩)], .func (Fn.func 9) #[] #[.pointer (some ⟨w.heap.size + 1, 0, none⟩)], .func (Fn.func 11) #[] #[.pointer (some ⟨w.heap.size + 1, 0, none⟩)]] : Array Value)[1]? = some (.func (Fn.func 9) #[] #[.pointer (some ⟨w.heap.size + 1, 0, none⟩)]) from rfl] at q1; have q2 := HV0.out.2.1.cell 2; rw [show (#[.func (Fn.func 7) #[] #[.pointer (some ⟨w.heap.size, 0, none⟩), .pointer (some ⟨w.heap.size + 1, 0, none⟩)], .func (Fn.func 9) #[] #[.pointer (some ⟨w.heap.size + 1, 0, none⟩)], .func (Fn.func 11) #[] #[.pointer (some ⟨w.heap.size + 1, 0, none⟩)]] : Array Value)[2]? = some (.func (Fn.func 11) #[] #[.pointer (some ⟨w.heap.size + 1, 0, none⟩)]) from rfl] at q2; clear hP hq)
            | ((with_reducible refine wp_load_row' rfl 33 _ rfl Try.underlying33 rfl ?_); refine ⟨_, _, _, rfl, HV0.out.2.2.2, Try.info_mvB _ _ _ _ _, ?_⟩)
            | ((with_reducible refine wp_store_row' rfl 33 _ _ rfl ?_); refine ⟨w.heap.size + 2, 33, movC f1 g1 0 0 z1, rfl, rfl, ⟨_, HV0.out.1.res.heap, (by kernel_rfl)⟩, Try.info_mvB _ _ _ _ _, Try.one_mvB _ _ _ _ _, ?_⟩; intro W9 hP9 hq9; have HB := Lib.hid (hP9.below HV0.out.1.below (by omega))))
          have HX0 := Lib.hid (And.intro HV0.out.1 (And.intro HV0.out.2.1 HV0.out.2.2.1))
          rw [rounds_succ]
          go_wp2_with (first
            | (go_at_call 9; (with_reducible refine (HC1.out _ _ HX0.out.1.s).mono ?_); rintro e wc1 ⟨rfl, hb⟩; have HW1 := Lib.hid (And.intro (HX0.out.1.next hb) (And.intro (HX0.out.2.1.below hb) (And.intro HX0.out.2.2 (Nat.lt_of_lt_of_le HX0.out.2.1.lt hb.size)))); clear hb)
            | ((with_reducible refine wp_store_row' rfl 33 _ _ rfl ?_); refine ⟨wc1.heap.size, 33, movC g2 g2 0 y2 false, rfl, rfl, ⟨_, heap_alloc_new _ _, (by kernel_rfl)⟩, Try.info_mvB _ _ _ _ _, Try.one_mvB _ _ _ _ _, ?_⟩; intro V1 hP hq; have HV1 := Lib.hid (And.intro ((HW1.out.1.next ((Below.refl _ _).alloc (Nat.le_refl _) _)).other hP (Nat.lt_trans HW1.out.2.2.1 HW1.out.2.2.2)) (And.intro (hP.row (HW1.out.2.1.alloc _) (Nat.ne_of_lt HW1.out.2.2.2)) (And.intro HW1.out.2.2.1 hq))); have q0 := HV1.out.2.1.cell 0; rw [show (#[.func (Fn.func 7) #[] #[.pointer (some ⟨w.heap.size, 0, none⟩), .pointer (some ⟨w.heap.size + 1, 0, none⟩)], .func (Fn.func 9) #[] #[.pointer (some ⟨w.heap.size + 1, 0, none⟩)], .func (Fn.func 11) #[] #[.pointer (some ⟨w.heap.size + 1, 0, none⟩)]] : Array Value)[0]? = some (.func (Fn.func 7) #[] #[.pointer (some ⟨w.heap.size, 0, none⟩), .pointer (some ⟨w.heap.size + 1, 0, none⟩)]) from rfl] at q0; have q1 := HV1.out.2.1.cell 1; rw [show (#[.func (Fn.func 7) #[] #[.pointer (some ⟨w.heap.size, 0, none⟩), .pointer (some ⟨w.heap.size + 1, 0, none⟩)], .func (Fn.func 9) #[] #[.pointer (some ⟨w.heap.size + 1, 0, none⟩)], .func (Fn.func 11) #[] #[.pointer (some ⟨w.heap.size + 1, 0, none⟩)]] : Array Value)[1]? = some (.func (Fn.func 9) #[] #[.pointer (some ⟨w.heap.size + 1, 0, none⟩)]) from rfl] at q1; have q2 := HV1.out.2.1.cell 2; rw [show (#[.func (Fn.func 7) #[] #[.pointer (some ⟨w.heap.size, 0, none⟩), .pointer (some ⟨w.heap.size + 1, 0, none⟩)], .func (Fn.func 9) #[] #[.pointer (some ⟨w.heap.size + 1, 0, none⟩)], .func (Fn.func 11) #[] #[.pointer (some ⟨w.heap.size + 1, 0, none⟩)]] : Array Value)[2]? = some (.func (Fn.func 11) #[] #[.pointer (some ⟨w.heap.size + 1, 0, none⟩)]) from rfl] at q2; clear hP hq)
            | ((with_reducible refine wp_load_row' rfl 33 _ rfl Try.underlying33 rfl ?_); refine ⟨_, _, _, rfl, HV1.out.2.2.2, Try.info_mvB _ _ _ _ _, ?_⟩)
            | ((with_reducible refine wp_store_row' rfl 33 _ _ rfl ?_); refine ⟨w.heap.size + 2, 33, movC g2 g2 0 y2 false, rfl, rfl, ⟨_, HV1.out.1.res.heap, (by kernel_rfl)⟩, Try.info_mvB _ _ _ _ _, Try.one_mvB _ _ _ _ _, ?_⟩; intro W9 hP9 hq9; have HB := Lib.hid (hP9.below HV1.out.1.below (by omega))))
          have HX1 := Lib.hid (And.intro HV1.out.1 (And.intro HV1.out.2.1 HV1.out.2.2.1))
          rw [rounds_succ]
          go_wp2_with (first
            | (go_at_call 11; (with_reducible refine (HC2.out _ _ HX1.out.1.s).mono ?_); rintro e wc2 ⟨rfl, hb⟩; have HW2 := Lib.hid (And.intro (HX1.out.1.next hb) (And.intro (HX1.out.2.1.below hb) (And.intro HX1.out.2.2 (Nat.lt_of_lt_of_le HX1.out.2.1.lt hb.size)))); clear hb)
            | ((with_reducible refine wp_store_row' rfl 33 _ _ rfl ?_); refine ⟨wc2.heap.size, 33, movC f3 g3 x3 0 false, rfl, rfl, ⟨_, heap_alloc_new _ _, (by kernel_rfl)⟩, Try.info_mvB _ _ _ _ _, Try.one_mvB _ _ _ _ _, ?_⟩; intro V2 hP hq; have HV2 := Lib.hid (And.intro ((HW2.out.1.next ((Below.refl _ _).alloc (Nat.le_refl _) _)).other hP (Nat.lt_trans HW2.out.2.2.1 HW2.out.2.2.2)) (And.intro (hP.row (HW2.out.2.1.alloc _) (Nat.ne_of_lt HW2.out.2.2.2)) (And.intro HW2.out.2.2.1 hq))); have q0 := HV2.out.2.1.cell 0; rw [show (#[.func (Fn.func 7) #[] #[.pointer (some ⟨w.heap.size, 0, none⟩), .pointer (some ⟨w.heap.size + 1, 0, none⟩)], .func (Fn.func 9) #[] #[.pointer (some ⟨w.heap.size + 1, 0, none⟩)], .func (Fn.func 11) #[] #[.pointer (some ⟨w.heap.size + 1, 0, none⟩)]] : Array Value)[0]? = some (.func (Fn.func 7) #[] #[.pointer (some ⟨w.heap.size, 0, none⟩), .pointer (some ⟨w.heap.size + 1, 0, none⟩)]) from rfl] at q0; have q1 := HV2.out.2.1.cell 1; rw [show (#[.func (Fn.func 7) #[] #[.pointer (some ⟨w.heap.size, 0, none⟩), .pointer (some ⟨w.heap.size + 1, 0, none⟩)], .func (Fn.func 9) #[] #[.pointer (some ⟨w.heap.size + 1, 0, none⟩)], .func (Fn.func 11) #[] #[.pointer (some ⟨w.heap.size + 1, 0, none⟩)]] : Array Value)[1]? = some (.func (Fn.func 9) #[] #[.pointer (some ⟨w.heap.size + 1, 0, none⟩)]) from rfl] at q1; have q2 := HV2.out.2.1.cell 2; rw [show (#[.func (Fn.func 7) #[] #[.pointer (some ⟨w.heap.size, 0, none⟩), .pointer (some ⟨w.heap.size + 1, 0, none⟩)], .func (Fn.func 9) #[] #[.pointer (some ⟨w.heap.size + 1, 0, none⟩)], .func (Fn.func 11) #[] #[.pointer (some ⟨w.heap.size + 1, 0, none⟩)]] : Array Value)[2]? = some (.func (Fn.func 11) #[] #[.pointer (some ⟨w.heap.size + 1, 0, none⟩)]) from rfl] at q2; clear hP hq)
            | ((with_reducible refine wp_load_row' rfl 33 _ rfl Try.underlying33 rfl ?_); refine ⟨_, _, _, rfl, HV2.out.2.2.2, Try.info_mvB _ _ _ _ _, ?_⟩)
            | ((with_reducible refine wp_store_row' rfl 33 _ _ rfl ?_); refine ⟨w.heap.size + 2, 33, movC f3 g3 x3 0 false, rfl, rfl, ⟨_, HV2.out.1.res.heap, (by kernel_rfl)⟩, Try.info_mvB _ _ _ _ _, Try.one_mvB _ _ _ _ _, ?_⟩; intro W9 hP9 hq9; have HB := Lib.hid (hP9.below HV2.out.1.below (by omega))))
          exact bodyPost_ret (results_mv_tmp Try.results4 _ _ (w.heap.size + 2) 33 _ (0, 0) _ rfl hq9.heap Try.underlying33 rfl (Try.info_mvB _ _ _ _ _)) rfl ⟨rfl, HB.out⟩
      · refine ⟨g2, g2, 0, y2, false, 0, N.parse_drop hk hD, fun w => ?_⟩
        clear hR hD hW hk hs hc
        have h0 : PsAt w c s (((w.alloc (.cells (posC c) 31)).alloc (.cells #[.string s] 9)).alloc (.cells #[.int .i8 0, .int .i8 0, .int .u8 0, .int .u8 0, .bool false] 33)) := PsAt.start w c s
        have H0 := Lib.hid h0
        clear h0
        go_enter Try.func4, Try.ntmps4
        go_wp2_with (first
          | ((with_reducible refine wp_load_box rfl _ rfl ?_); refine ⟨_, c, rfl, H0.out.p, ?_⟩)
          | (go_at_call 6; (with_reducible refine (HKn.out _).mono ?_); rintro e w1 ⟨rfl, hb1⟩; have H1 := Lib.hid (H0.out.next hb1); clear hb1))
        have h2 := RowAt.new w1 #[.func (Fn.func 7) #[] #[.pointer (some ⟨w.heap.size, 0, none⟩), .pointer (some ⟨w.heap.size + 1, 0, none⟩)], .func (Fn.func 9) #[] #[.pointer (some ⟨w.heap.size + 1, 0, none⟩)], .func (Fn.func 11) #[] #[.pointer (some ⟨w.heap.size + 1, 0, none⟩)]] 43
        have h1 := H1.out.next ((Below.refl _ _).alloc (Nat.le_refl _) (.cells #[.func (Fn.func 7) #[] #[.pointer (some ⟨w.heap.size, 0, none⟩), .pointer (some ⟨w.heap.size + 1, 0, none⟩)], .func (Fn.func 9) #[] #[.pointer (some ⟨w.heap.size + 1, 0, none⟩)], .func (Fn.func 11) #[] #[.pointer (some ⟨w.heap.size + 1, 0, none⟩)]] 43))
        have h3 : w.heap.size + 2 < w1.heap.size := H1.out.res.lt
        generalize w1.alloc (.cells #[.func (Fn.func 7) #[] #[.pointer (some ⟨w.heap.size, 0, none⟩), .pointer (some ⟨w.heap.size + 1, 0, none⟩)], .func (Fn.func 9) #[] #[.pointer (some ⟨w.heap.size + 1, 0, none⟩)], .func (Fn.func 11) #[] #[.pointer (some ⟨w.heap.size + 1, 0, none⟩)]] 43) = W2 at h1 h2 ⊢
        generalize w1.heap.size = b at h2 h3 ⊢
        have HG := Lib.hid (And.intro h1 (And.intro h2 h3))
        have q0 := h2.cell 0
        rw [show (#[.func (Fn.func 7) #[] #[.pointer (some ⟨w.heap.size, 0, none⟩), .pointer (some ⟨w.heap.size + 1, 0, none⟩)], .func (Fn.func 9) #[] #[.pointer (some ⟨w.heap.size + 1, 0, none⟩)], .func (Fn.func 11) #[] #[.pointer (some ⟨w.heap.size + 1, 0, none⟩)]] : Array Value)[0]? = some (.func (Fn.func 7) #[] #[.pointer (some ⟨w.heap.size, 0, none⟩), .pointer (some ⟨w.heap.size + 1, 0, none⟩)]) from rfl] at q0
        have q1 := h2.cell 1
        rw [show (#[.func (Fn.func 7) #[] #[.pointer (some ⟨w.heap.size, 0, none⟩), .pointer (some ⟨w.heap.size + 1, 0, none⟩)], .func (Fn.func 9) #[] #[.pointer (some ⟨w.heap.size + 1, 0, none⟩)], .func (Fn.func 11) #[] #[.pointer (some ⟨w.heap.size + 1, 0, none⟩)]] : Array Value)[1]? = some (.func (Fn.func 9) #[] #[.pointer (some ⟨w.heap.size + 1, 0, none⟩)]) from rfl] at q1
        have q2 := h2.cell 2
        rw [show (#[.func (Fn.func 7) #[] #[.pointer (some ⟨w.heap.size, 0, none⟩), .pointer (some ⟨w.heap.size + 1, 0, none⟩)], .func (Fn.func 9) #[] #[.pointer (some ⟨w.heap.size + 1, 0, none⟩)], .func (Fn.func 11) #[] #[.pointer (some ⟨w.heap.size + 1, 0, none⟩)]] : Array Value)[2]? = some (.func (Fn.func 11) #[] #[.pointer (some ⟨w.heap.size + 1, 0, none⟩)]) from rfl] at q2
        clear h1 h2 h3 H1 H0 HKn
        refine wp_loop_rounds 4 ?_
        rw [rounds_succ]
        go_wp2_with (first
          | (go_at_call 7; (with_reducible refine (HC0.out _ _ _ HG.out.1.p HG.out.1.s).mono ?_); rintro e wc0 ⟨rfl, hb⟩; have HW0 := Lib.hid (And.intro (HG.out.1.next hb) (And.intro (HG.out.2.1.below hb) (And.intro HG.out.2.2 (Nat.lt_of_lt_of_le HG.out.2.1.lt hb.size)))); clear hb)
          | ((with_reducible refine wp_store_row' rfl 33 _ _ rfl ?_); refine ⟨wc0.heap.size, 33, movC f1 g1 0 0 z1, rfl, rfl, ⟨_, heap_alloc_new _ _, (by kernel_rfl)⟩, Try.info_mvB _ _ _ _ _, Try.one_mvB _ _ _ _ _, ?_⟩; intro V0 hP hq; have HV0 := Lib.hid (And.intro ((HW0.out.1.next ((Below.refl _ _).alloc (Nat.le_refl _) _)).other hP (Nat.lt_trans HW0.out.2.2.1 HW0.out.2.2.2)) (And.intro (hP.row (HW0.out.2.1.alloc _) (Nat.ne_of_lt HW0.out.2.2.2)) (And.intro HW0.out.2.2.1 hq))); have q0 := HV0.out.2.1.cell 0; rw [show (#[.func (Fn.func 7) #[] #[.pointer (some ⟨w.heap.size, 0, none⟩), .pointer (some ⟨w.heap.size + 1, 0, none⟩)], .func (Fn.func 9) #[] #[.pointer (some ⟨w.heap.size + 1, 0, none⟩)], .func (Fn.func 11) #[] #[.pointer (some ⟨w.heap.size + 1, 0, none⟩)]] : Array Value)[0]? = some (.func (Fn.func 7) #[] #[.pointer (some ⟨w.heap.size, 0, none⟩), .pointer (some ⟨w.heap.size + 1, 0, none⟩)]) from rfl] at q0; have q1 := HV0.out.2.1.cell 1; rw [show (#[.func (Fn.func 7) #[] #[.pointer (some ⟨w.heap.size, 0, none⟩), .pointer (some ⟨w.heap.size + 1, 0, none⟩)], .func (Fn.func 9) #[] #[.pointer (some ⟨w.heap.size + 1, 0, none⟩)], .func (Fn.func 11) #[] #[.pointer (some ⟨w.heap.size + 1, 0, none⟩)]] : Array Value)[1]? = some (.func (Fn.func 9) #[] #[.pointer (some ⟨w.heap.size + 1, 0, none⟩)]) from rfl] at q1; have q2 := HV0.out.2.1.cell 2; rw [show (#[.func (Fn.func 7) #[] #[.pointer (some ⟨w.heap.size, 0, none⟩), .pointer (some ⟨w.heap.size + 1, 0, none⟩)], .func (Fn.func 9) #[] #[.pointer (some ⟨w.heap.size + 1, 0, none⟩)], .func (Fn.func 11) #[] #[.pointer (some ⟨w.heap.size + 1, 0, none⟩)]] : Array Value)[2]? = some (.func (Fn.func 11) #[] #[.pointer (some ⟨w.heap.size + 1, 0, none⟩)]) from rfl] at q2; clear hP hq)
          | ((with_reducible refine wp_load_row' rfl 33 _ rfl Try.underlying33 rfl ?_); refine ⟨_, _, _, rfl, HV0.out.2.2.2, Try.info_mvB _ _ _ _ _, ?_⟩)
          | ((with_reducible refine wp_store_row' rfl 33 _ _ rfl ?_); refine ⟨w.heap.size + 2, 33, movC f1 g1 0 0 z1, rfl, rfl, ⟨_, HV0.out.1.res.heap, (by kernel_rfl)⟩, Try.info_mvB _ _ _ _ _, Try.one_mvB _ _ _ _ _, ?_⟩; intro W9 hP9 hq9; have HB := Lib.hid (hP9.below HV0.out.1.below (by omega))))
        have HX0 := Lib.hid (And.intro HV0.out.1 (And.intro HV0.out.2.1 HV0.out.2.2.1))
        rw [rounds_succ]
        go_wp2_with (first
          | (go_at_call 9; (with_reducible refine (HC1.out _ _ HX0.out.1.s).mono ?_); rintro e wc1 ⟨rfl, hb⟩; have HW1 := Lib.hid (And.intro (HX0.out.1.next hb) (And.intro (HX0.out.2.1.below hb) (And.intro HX0.out.2.2 (Nat.lt_of_lt_of_le HX0.out.2.1.lt hb.size)))); clear hb)
          | ((with_reducible refine wp_store_row' rfl 33 _ _ rfl ?_); refine ⟨wc1.heap.size, 33, movC g2 g2 0 y2 false, rfl, rfl, ⟨_, heap_alloc_new _ _, (by kernel_rfl)⟩, Try.info_mvB _ _ _ _ _, Try.one_mvB _ _ _ _ _, ?_⟩; intro V1 hP hq; have HV1 := Lib.hid (And.intro ((HW1.out.1.next ((Below.refl _ _).alloc (Nat.le_refl _) _)).other hP (Nat.lt_trans HW1.out.2.2.1 HW1.out.2.2.2)) (And.intro (hP.row (HW1.out.2.1.alloc _) (Nat.ne_of_lt HW1.out.2.2.2)) (And.intro HW1.out.2.2.1 hq))); have q0 := HV1.out.2.1.cell 0; rw [show (#[.func (Fn.func 7) #[] #[.pointer (some ⟨w.heap.size, 0, none⟩), .pointer (some ⟨w.heap.size + 1, 0, none⟩)], .func (Fn.func 9) #[] #[.pointer (some ⟨w.heap.size + 1, 0, none⟩)], .func (Fn.func 11) #[] #[.pointer (some ⟨w.heap.size + 1, 0, none⟩)]] : Array Value)[0]? = some (.func (Fn.func 7) #[] #[.pointer (some ⟨w.heap.size, 0, none⟩), .pointer (some ⟨w.heap.size + 1, 0, none⟩)]) from rfl] at q0; have q1 := HV1.out.2.1.cell 1; rw [show (#[.func (Fn.func 7) #[] #[.pointer (some ⟨w.heap.size, 0, none⟩), .pointer (some ⟨w.heap.size + 1, 0, none⟩)], .func (Fn.func 9) #[] #[.pointer (some ⟨w.heap.size + 1, 0, none⟩)], .func (Fn.func 11) #[] #[.pointer (some ⟨w.heap.size + 1, 0, none⟩)]] : Array Value)[1]? = some (.func (Fn.func 9) #[] #[.pointer (some ⟨w.heap.size + 1, 0, none⟩)]) from rfl] at q1; have q2 := HV1.out.2.1.cell 2; rw [show (#[.func (Fn.func 7) #[] #[.pointer (some ⟨w.heap.size, 0, none⟩), .pointer (some ⟨w.heap.size + 1, 0, none⟩)], .func (Fn.func 9) #[] #[.pointer (some ⟨w.heap.size + 1, 0, none⟩)], .func (Fn.func 11) #[] #[.pointer (some ⟨w.heap.size + 1, 0, none⟩)]] : Array Value)[2]? = some (.func (Fn.func 11) #[] #[.pointer (some ⟨w.heap.size + 1, 0, none⟩)]) from rfl] at q2; clear hP hq)
          | ((with_reducible refine wp_load_row' rfl 33 _ rfl Try.underlying33 rfl ?_); refine ⟨_, _, _, rfl, HV1.out.2.2.2, Try.info_mvB _ _ _ _ _, ?_⟩)
          | ((with_reducible refine wp_store_row' rfl 33 _ _ rfl ?_); refine ⟨w.heap.size + 2, 33, movC g2 g2 0 y2 false, rfl, rfl, ⟨_, HV1.out.1.res.heap, (by kernel_rfl)⟩, Try.info_mvB _ _ _ _ _, Try.one_mvB _ _ _ _ _, ?_⟩; intro W9 hP9 hq9; have HB := Lib.hid (hP9.below HV1.out.1.below (by omega))))
        exact bodyPost_ret (results_mv_tmp Try.results4 _ _ (w.heap.size + 2) 33 _ (0, 0) _ rfl hq9.heap Try.underlying33 rfl (Try.info_mvB _ _ _ _ _)) rfl ⟨rfl, HB.out⟩
    · refine ⟨f1, g1, 0, 0, z1, 0, N.parse_cas hk hR (hz rfl), fun w => ?_⟩
      clear hz hR hD hW hk hs hc
      have h0 : PsAt w c s (((w.alloc (.cells (posC c) 31)).alloc (.cells #[.string s] 9)).alloc (.cells #[.int .i8 0, .int .i8 0, .int .u8 0, .int .u8 0, .bool false] 33)) := PsAt.start w c s
      have H0 := Lib.hid h0
      clear h0
      go_enter Try.func4, Try.ntmps4
      go_wp2_with (first
        | ((with_reducible refine wp_load_box rfl _ rfl ?_); refine ⟨_, c, rfl, H0.out.p, ?_⟩)
        | (go_at_call 6; (with_reducible refine (HKn.out _).mono ?_); rintro e w1 ⟨rfl, hb1⟩; have H1 := Lib.hid (H0.out.next hb1); clear hb1))
      have h2 := RowAt.new w1 #[.func (Fn.func 7) #[] #[.pointer (some ⟨w.heap.size, 0, none⟩), .pointer (some ⟨w.heap.size + 1, 0, none⟩)], .func (Fn.func 9) #[] #[.pointer (some ⟨w.heap.size + 1, 0, none⟩)], .func (Fn.func 11) #[] #[.pointer (some ⟨w.heap.size + 1, 0, none⟩)]] 43
      have h1 := H1.out.next ((Below.refl _ _).alloc (Nat.le_refl _) (.cells #[.func (Fn.func 7) #[] #[.pointer (some ⟨w.heap.size, 0, none⟩), .pointer (some ⟨w.heap.size + 1, 0, none⟩)], .func (Fn.func 9) #[] #[.pointer (some ⟨w.heap.size + 1, 0, none⟩)], .func (Fn.func 11) #[] #[.pointer (some ⟨w.heap.size + 1, 0, none⟩)]] 43))
      have h3 : w.heap.size + 2 < w1.heap.size := H1.out.res.lt
      generalize w1.alloc (.cells #[.func (Fn.func 7) #[] #[.pointer (some ⟨w.heap.size, 0, none⟩), .pointer (some ⟨w.heap.size + 1, 0, none⟩)], .func (Fn.func 9) #[] #[.pointer (some ⟨w.heap.size + 1, 0, none⟩)], .func (Fn.func 11) #[] #[.pointer (some ⟨w.heap.size + 1, 0, none⟩)]] 43) = W2 at h1 h2 ⊢
      generalize w1.heap.size = b at h2 h3 ⊢
      have HG := Lib.hid (And.intro h1 (And.intro h2 h3))
      have q0 := h2.cell 0
      rw [show (#[.func (Fn.func 7) #[] #[.pointer (some ⟨w.heap.size, 0, none⟩), .pointer (some ⟨w.heap.size + 1, 0, none⟩)], .func (Fn.func 9) #[] #[.pointer (some ⟨w.heap.size + 1, 0, none⟩)], .func (Fn.func 11) #[] #[.pointer (some ⟨w.heap.size + 1, 0, none⟩)]] : Array Value)[0]? = some (.func (Fn.func 7) #[] #[.pointer (some ⟨w.heap.size, 0, none⟩), .pointer (some ⟨w.heap.size + 1, 0, none⟩)]) from rfl] at q0
      have q1 := h2.cell 1
      rw [show (#[.func (Fn.func 7) #[] #[.pointer (some ⟨w.heap.size, 0, none⟩), .pointer (some ⟨w.heap.size + 1, 0, none⟩)], .func (Fn.func 9) #[] #[.pointer (some ⟨w.heap.size + 1, 0, none⟩)], .func (Fn.func 11) #[] #[.pointer (some ⟨w.heap.size + 1, 0, none⟩)]] : Array Value)[1]? = some (.func (Fn.func 9) #[] #[.pointer (some ⟨w.heap.size + 1, 0, none⟩)]) from rfl] at q1
      have q2 := h2.cell 2
      rw [show (#[.func (Fn.func 7) #[] #[.pointer (some ⟨w.heap.size, 0, none⟩), .pointer (some ⟨w.heap.size + 1, 0, none⟩)], .func (Fn.func 9) #[] #[.pointer (some ⟨w.heap.size + 1, 0, none⟩)], .func (Fn.func 11) #[] #[.pointer (some ⟨w.heap.size + 1, 0, none⟩)]] : Array Value)[2]? = some (.func (Fn.func 11) #[] #[.pointer (some ⟨w.heap.size + 1, 0, none⟩)]) from rfl] at q2
      clear h1 h2 h3 H1 H0 HKn
      refine wp_loop_rounds 4 ?_
      rw [rounds_succ]
      go_wp2_with (first
        | (go_at_call 7; (with_reducible refine (HC0.out _ _ _ HG.out.1.p HG.out.1.s).mono ?_); rintro e wc0 ⟨rfl, hb⟩; have HW0 := Lib.hid (And.intro (HG.out.1.next hb) (And.intro (HG.out.2.1.below hb) (And.intro HG.out.2.2 (Nat.lt_of_lt_of_le HG.out.2.1.lt hb.size)))); clear hb)
        | ((with_reducible refine wp_store_row' rfl 33 _ _ rfl ?_); refine ⟨wc0.heap.size, 33, movC f1 g1 0 0 z1, rfl, rfl, ⟨_, heap_alloc_new _ _, (by kernel_rfl)⟩, Try.info_mvB _ _ _ _ _, Try.one_mvB _ _ _ _ _, ?_⟩; intro V0 hP hq; have HV0 := Lib.hid (And.intro ((HW0.out.1.next ((Below.refl _ _).alloc (Nat.le_refl _) _)).other hP (Nat.lt_trans HW0.out.2.2.1 HW0.out.2.2.2)) (And.intro (hP.row (HW0.out.2.1.alloc _) (Nat.ne_of_lt HW0.out.2.2.2)) (And.intro HW0.out.2.2.1 hq))); have q0 := HV0.out.2.1.cell 0; rw [show (#[.func (Fn.func 7) #[] #[.pointer (some ⟨w.heap.size, 0, none⟩), .pointer (some ⟨w.heap.size + 1, 0, none⟩)], .func (Fn.func 9) #[] #[.pointer (some ⟨w.heap.size + 1, 0, none⟩)], .func (Fn.func 11) #[] #[.pointer (some ⟨w.heap.size + 1, 0, none⟩)]] : Array Value)[0]? = some (.func (Fn.func 7) #[] #[.pointer (some ⟨w.heap.size, 0, none⟩), .pointer (some ⟨w.heap.size + 1, 0, none⟩)]) from rfl] at q0; have q1 := HV0.out.2.1.cell 1; rw [show (#[.func (Fn.func 7) #[] #[.pointer (some ⟨w.heap.size, 0, none⟩), .pointer (some ⟨w.heap.size + 1, 0, none⟩)], .func (Fn.func 9) #[] #[.pointer (some ⟨w.heap.size + 1, 0, none⟩)], .func (Fn.func 11) #[] #[.pointer (some ⟨w.heap.size + 1, 0, none⟩)]] : Array Value)[1]? = some (.func (Fn.func 9) #[] #[.pointer (some ⟨w.heap.size + 1, 0, none⟩)]) from rfl] at q1; have q2 := HV0.out.2.1.cell 2; rw [show (#[.func (Fn.func 7) #[] #[.pointer (some ⟨w.heap.size, 0, none⟩), .pointer (some ⟨w.heap.size + 1, 0, none⟩)], .func (Fn.func 9) #[] #[.pointer (some ⟨w.heap.size + 1, 0, none⟩)], .func (Fn.func 11) #[] #[.pointer (some ⟨w.heap.size + 1, 0, none⟩)]] : Array Value)[2]? = some (.func (Fn.func 11) #[] #[.pointer (some ⟨w.heap.size + 1, 0, none⟩)]) from rfl] at q2; clear hP hq)
        | ((with_reducible refine wp_load_row' rfl 33 _ rfl Try.underlying33 rfl ?_); refine ⟨_, _, _, rfl, HV0.out.2.2.2, Try.info_mvB _ _ _ _ _, ?_⟩)
        | ((with_reducible refine wp_store_row' rfl 33 _ _ rfl ?_); refine ⟨w.heap.size + 2, 33, movC f1 g1 0 0 z1, rfl, rfl, ⟨_, HV0.out.1.res.heap, (by kernel_rfl)⟩, Try.info_mvB _ _ _ _ _, Try.one_mvB _ _ _ _ _, ?_⟩; intro W9 hP9 hq9; have HB := Lib.hid (hP9.below HV0.out.1.below (by omega))))
      exact bodyPost_ret (results_mv_tmp Try.results4 _ _ (w.heap.size + 2) 33 _ (0, 0) _ rfl hq9.heap Try.underlying33 rfl (Try.info_mvB _ _ _ _ _)) rfl ⟨rfl, HB.out⟩
end Go.Proofs.Ytldpejeodhkgdaa
