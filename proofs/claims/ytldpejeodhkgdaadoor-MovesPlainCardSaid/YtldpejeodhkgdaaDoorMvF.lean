/- The program's package moves: a kind's letter, a plain move's text. -/
import Derived.Test.YtldpejeodhkgdaaDoorMvE
import Derived.Test.YtldpejeodhkgdaaDoorMvL
namespace Go.Proofs.YtldpejeodhkgdaaDoor
open Go.RowKit Go.Sort
attribute [local go_sem] Oper.semAt_some

namespace N
/-- A kind's letter, in upper case. -/
def up (k : Nat) : ByteArray := P.letter (P.make 0 (k : Int))
def low (k : Nat) : ByteArray := ⟨(lowB k).toArray⟩
theorem seven {k : Nat} (h : k ≤ 6) : k = 0 ∨ k = 1 ∨ k = 2 ∨ k = 3 ∨ k = 4 ∨ k = 5 ∨ k = 6 := by omega
theorem up_of {k : Nat} (h : 1 ≤ k ∧ k ≤ 5) : up k = ⟨#[upB k]⟩ := by
  rcases seven (k := k) (by omega) with rfl | rfl | rfl | rfl | rfl | rfl | rfl <;> first | (exfalso; omega) | decide +kernel
theorem up_ascii {k : Nat} (h : k ≤ 6) : ∀ b ∈ (up k).data.toList, b.toNat < 128 := by
  rcases seven h with rfl | rfl | rfl | rfl | rfl | rfl | rfl <;> decide +kernel
theorem up_size {k : Nat} (h : k ≤ 6) : (up k).size ≤ 1 := by
  rcases seven h with rfl | rfl | rfl | rfl | rfl | rfl | rfl <;> decide +kernel
theorem up_low {k : Nat} (h : k ≤ 6) (h1 : k ≠ 1) : (⟨(Lib.toLowerA (up k).data.toList).toArray⟩ : ByteArray) = low k := by
  rcases seven h with rfl | rfl | rfl | rfl | rfl | rfl | rfl <;> first | (exact absurd rfl h1) | decide +kernel
theorem low_size (k : Nat) : (low k).size ≤ 1 := by
  unfold low lowB
  split <;> decide
theorem walk_low (f g x : Nat) : (tx f ++ tx g) ++ low x = walk f g x := by
  unfold low walk
  generalize lowB x = l
  apply ByteArray.ext
  rw [ByteArray.data_append, ByteArray.data_append]
  show (#[_, _] ++ #[_, _]) ++ l.toArray = _
  simp
end N
set_option maxRecDepth 100000 in
theorem mvletter_any (k : Nat) (w : World) (hk : k ≤ 6) : Calls Tryd.prog 16 #[.int .u8 (k : Int)] w fun e w' => e = .returned (.string (N.up k)) ∧ w = w' := by
  have hb := P.make_bd 0 (k : Int) (by decide)
  have HM : Hid (∀ W, Calls Tryd.prog 37 #[.int .u8 0, .int .u8 (k : Int)] W fun e w' => e = .returned (.int .u8 (P.make 0 (k : Int))) ∧ W = w') := Lib.hid (fun W => make_any 0 k W (by decide) (by decide) (by omega) (by omega))
  have HL : Hid (∀ W, Calls Tryd.prog 36 #[.int .u8 (P.make 0 (k : Int))] W fun e w' => e = .returned (.string (N.up k)) ∧ W = w') := Lib.hid (fun W => letter_any _ W hb.1 (by omega))
  clear hb
  obtain ⟨p, hp⟩ : ∃ p, P.make 0 (k : Int) = p := ⟨_, rfl⟩
  rw [hp] at HM HL
  clear hp
  go_enter Tryd.func16, Tryd.ntmps16
  go_wp2_with (first
    | (go_at_call 37; (with_reducible refine (HM.out _).mono ?_); rintro e w1 ⟨rfl, rfl⟩)
    | (go_at_call 36; (with_reducible refine (HL.out _).mono ?_); rintro e w1 ⟨rfl, rfl⟩))
  go_ret
  exact ⟨rfl, rfl⟩
theorem mvlower_any (k : Nat) (w : World) (hk : k ≤ 6) (h1 : k ≠ 1) : Calls Tryd.prog 42 #[.string (N.up k)] w fun e w' => e = .returned (.string (N.low k)) ∧ Below w.heap.size w w' := by
  have := Tryd.strings_ToLower_ascii (N.up k) w (by have := N.up_size hk; omega) (fun j b hb => N.up_ascii hk b (List.mem_of_getElem? hb))
  rwa [N.up_low hk h1] at this
set_option maxRecDepth 100000 in
set_option maxHeartbeats 1000000 in
theorem mvplain_any (f g x : Nat) (y : Int) (z : Bool) (w : World) (hf : f < 64) (hg : g < 64) (hx : x ≤ 6) (hx1 : x ≠ 1) :
    Calls Tryd.prog 19 #[.agg (movC f g x y z)] w fun e w' => e = .returned (.string (N.walk f g x)) ∧ Below w.heap.size w w' := by
  have hM := RowAt.new w (movC f g x y z) 33
  have m0 := hM.cell 0
  have m1 := hM.cell 1
  have m2 := hM.cell 2
  rw [show (movC f g x y z)[0]? = some (.int .i8 (f : Int)) from rfl] at m0
  rw [show (movC f g x y z)[1]? = some (.int .i8 (g : Int)) from rfl] at m1
  rw [show (movC f g x y z)[2]? = some (.int .u8 (x : Int)) from rfl] at m2
  have lb := hM.lt
  have hb0 := Lib.hid (show Below w.heap.size w (w.alloc (.cells (movC f g x y z) 33)) from (Below.refl _ _).alloc (Nat.le_refl _) _)
  have HF : Hid (∀ W, Calls Tryd.prog 17 #[.int .i8 (f : Int)] W fun e w' => e = .returned (.string (N.tx f)) ∧ Below W.heap.size W w') := Lib.hid (fun W => mvtext_any f W hf)
  have HG : Hid (∀ W, Calls Tryd.prog 17 #[.int .i8 (g : Int)] W fun e w' => e = .returned (.string (N.tx g)) ∧ Below W.heap.size W w') := Lib.hid (fun W => mvtext_any g W hg)
  have HL : Hid (∀ W, Calls Tryd.prog 16 #[.int .u8 (x : Int)] W fun e w' => e = .returned (.string (N.up x)) ∧ W = w') := Lib.hid (fun W => mvletter_any x W hx)
  have HT : Hid (∀ W, Calls Tryd.prog 42 #[.string (N.up x)] W fun e w' => e = .returned (.string (N.low x)) ∧ Below W.heap.size W w') := Lib.hid (fun W => mvlower_any x W hx hx1)
  have E := Lib.hid (N.walk_low f g x)
  have S1 := Lib.hid (show (N.tx f).size + (N.tx g).size ≤ 9223372036854775807 from (by decide : 2 + 2 ≤ 9223372036854775807))
  have S2 := Lib.hid (show (N.tx f ++ N.tx g).size + (N.low x).size ≤ 9223372036854775807 from by
    have : (N.tx f ++ N.tx g).size = 4 := rfl
    have := N.low_size x
    omega)
  clear hf hg hx hx1
  obtain ⟨S, hS⟩ : ∃ S, N.walk f g x = S := ⟨_, rfl⟩
  obtain ⟨a, ha⟩ : ∃ a, N.tx f = a := ⟨_, rfl⟩
  obtain ⟨b, hb⟩ : ∃ b, N.tx g = b := ⟨_, rfl⟩
  obtain ⟨u, hu⟩ : ∃ u, N.up x = u := ⟨_, rfl⟩
  obtain ⟨l, hl⟩ : ∃ l, N.low x = l := ⟨_, rfl⟩
  rw [hS] at E ⊢
  rw [ha, hb, hl] at E S2
  rw [ha, hb] at S1
  rw [ha] at HF
  rw [hb] at HG
  rw [hu] at HL
  rw [hu, hl] at HT
  clear ha hb hu hl hS hM
  go_enter Tryd.func19, Tryd.ntmps19
  go_upto_region 1 with fail
  refine region_below (by kernel_rfl) (by kernel_rfl) ?_
  try simp only [Act.put]
  repeat (first
    | (go_big_quiet_want; refine quiet_cat _ _ _ rfl ⟨a, b, rfl, rfl, S1.out, ?_⟩; simp only [Act.put, List.setIfInBounds_toArray, List.set_cons_succ, List.set_cons_zero]; go_big_quiet_on)
    | (go_big_quiet_want; refine quiet_cat _ _ _ rfl ⟨a ++ b, l, rfl, rfl, S2.out, ?_⟩; simp only [Act.put, List.setIfInBounds_toArray, List.set_cons_succ, List.set_cons_zero]; go_big_quiet_on)
    | go_big_quiet_step (first
      | (go_at_call 17; (with_reducible exact quiet_below (HF.out _)))
      | (go_at_call 17; (with_reducible exact quiet_below (HG.out _)))
      | (go_at_call 16; (with_reducible exact quiet_below_same (HL.out _)))
      | (go_at_call 42; (with_reducible exact quiet_below (HT.out _)))))
  refine wpQuiet_nil ?_
  intro w3 hb3
  go_wp2
  go_ret
  exact ⟨by rw [E.out]; rfl, below_next hb0.out hb3⟩
end Go.Proofs.YtldpejeodhkgdaaDoor
