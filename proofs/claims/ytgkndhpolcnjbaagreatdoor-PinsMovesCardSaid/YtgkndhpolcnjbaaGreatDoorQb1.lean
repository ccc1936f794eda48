/- Several texts in one: AfZ, AfZr. -/

import Derived.Test.YtgkndhpolcnjbaaGreatDoorQa7
import Derived.Test.YtgkndhpolcnjbaaGreatDoorQa8
import Derived.Test.YtgkndhpolcnjbaaGreatDoorQa4
import Derived.Test.YtgkndhpolcnjbaaGreatDoorQa6
import Derived.Test.YtgkndhpolcnjbaaGreatDoorQa9
namespace Go.Proofs.YtgkndhpolcnjbaaGreatDoor
open Go.RowKit Go.Sort
namespace A
theorem pk6_ne {color kind : Int} (h0 : 0 ≤ color) (h : fits color kind = true) : pk6 color kind < 78 := by
  obtain ⟨h1, h2⟩ := fits_cases h0 h
  rcases h1 with rfl | rfl <;> rcases h2 with rfl | rfl | rfl | rfl | rfl <;> decide
theorem add_78 (q : Nat → Int) (color kind : Int) (i : Nat) (h0 : 0 ≤ color) (hi : 78 ≤ i) : add q color kind i = q i := by
  unfold add
  split
  · rename_i h
    exact u_ne _ _ (by have := pk6_ne h0 h.1; omega)
  · rfl
theorem take_78i (q : Nat → Int) (color kind : Int) (i : Nat) (h0 : 0 ≤ color) (hi : 78 ≤ i) : take q color kind i = q i := by
  unfold take
  split
  · rename_i h
    exact u_ne _ _ (by have := pk6_ne h0 h.1; omega)
  · rfl
theorem men_78 (c : Nat → Int) (F G : Nat) (p d : Int) (ca : Bool) (t : Int) (hF : F < 64) (hG : G < 64) (ht : t < 64) (h0 : 0 ≤ c 78) (hk : ca = true → kg c ((F : Int), (G : Int), p, d, ca) < 64 ∧ rg c ((F : Int), (G : Int), p, d, ca) < 64) : men c ((F : Int), (G : Int), p, d, ca) t 78 = c 78 := by
  have hcF : cellF ((F : Int), (G : Int), p, d, ca) = 1 + F := by unfold cellF; simp
  have hcG : cellT ((F : Int), (G : Int), p, d, ca) = 1 + G := by unfold cellT; simp
  have hT : (if 0 ≤ t then upd c (1 + t.toNat) 0 else c) 78 = c 78 := by
    split
    · exact u_ne _ _ (by omega)
    · rfl
  unfold men
  rw [hcF, hcG]
  split
  · rename_i h
    obtain ⟨k1, k2⟩ := hk h
    rw [u_ne _ _ (by omega), u_ne _ _ (by omega), u_ne _ _ (by omega), u_ne _ _ (by omega)]
  · split
    · rw [u_ne _ _ (by omega), take_78i _ _ _ _ h0 (by omega)]
    · split
      · rw [u_ne _ _ (by omega), u_ne _ _ (by omega), u_ne _ _ (by omega), hT]
      · rw [u_ne _ _ (by omega), u_ne _ _ (by omega), hT]
theorem pocket_78 {q : Nat → Int} (c : Nat → Int) (m : Mv) (t : Int) (h0 : 0 ≤ q 78) : pocket c q m t 78 = q 78 := by
  have hT : pocketT c q t 78 = q 78 := by
    unfold pocketT
    split
    · unfold unmark
      rw [u_ne _ _ (by omega), add_78 _ _ _ _ h0 (by omega)]
    · rfl
  unfold pocket
  split
  · rfl
  · split
    · split
      · unfold domark unmark
        rw [u_ne _ _ (by omega), u_ne _ _ (by omega)]
      · rfl
    · split
      · unfold domark unmark
        rw [u_ne _ _ (by omega), u_ne _ _ (by omega), hT]
      · unfold unmark
        rw [u_ne _ _ (by omega), hT]
theorem blow_78 (q : Nat → Int) (m : Mv) (t : Int) : blow q m t 78 = q 78 := by
  unfold blow
  split
  · rfl
  · refine wipe_bd _ 78 _ (fun x hx e => ?_)
    unfold B.list at hx
    have := List.mem_range.1 (List.mem_filter.1 hx).1
    omega
theorem rights0_78 (c q : Nat → Int) (m : Mv) : rights0 c q m 78 = q 78 := by
  unfold rights0
  split
  · rw [u_ne _ _ (by omega), u_ne _ _ (by omega)]
  · rfl
theorem rights1_78 (q : Nat → Int) (m : Mv) (t : Int) (col side : Nat) : rights1 q m t col side 78 = q 78 := by
  unfold rights1
  split
  · exact u_ne _ _ (by omega)
  · rfl
theorem rights_78 (c q : Nat → Int) (m : Mv) (t : Int) : rights c q m t 78 = q 78 := by
  unfold rights
  rw [rights1_78, rights1_78, rights1_78, rights1_78, rights0_78]
theorem pass_78 (c q : Nat → Int) (m : Mv) : pass c q m 78 = q 78 := by
  unfold pass
  split
  · rw [u_ne _ _ (by omega), u_ne _ _ (by omega)]
  · exact u_ne _ _ (by omega)
theorem clocks_78 (c q : Nat → Int) (m : Mv) (t : Int) : clocks c q m t 78 = q 78 := by
  unfold clocks
  try dsimp only
  split
  · rw [u_ne _ _ (by omega), u_ne _ _ (by omega)]
  · exact u_ne _ _ (by omega)
/-- The position behind the first steps. -/
def step (c : Nat → Int) (m : Mv) (t : Int) : Nat → Nat → Int
  | 0 => c
  | 1 => men c m t
  | 2 => pocket c (men c m t) m t
  | 3 => blow (pocket c (men c m t) m t) m t
  | 4 => rights c (blow (pocket c (men c m t) m t) m t) m t
  | 5 => pass c (rights c (blow (pocket c (men c m t) m t) m t) m t) m
  | 6 => clocks c (pass c (rights c (blow (pocket c (men c m t) m t) m t) m t) m) m t
  | _ => after c m t
structure Fine (c : Nat → Int) (F G : Nat) (p d : Int) (ca : Bool) (t : Int) : Prop where
  F64 : F < 64
  G64 : G < 64
  p0 : 0 ≤ p
  p1 : p ≤ 255
  d0 : 0 ≤ d
  d1 : d ≤ 255
  t64 : t < 64
  c78 : c 78 ≤ 1
  ok : PosOk c
  kr : ca = true → kg c ((F : Int), (G : Int), p, d, ca) < 64 ∧ rg c ((F : Int), (G : Int), p, d, ca) < 64
  cast : ca = true → d = 0 ∧ ∃ kgn rgn : Nat, kgn < 64 ∧ rgn < 64 ∧ T.goalsV c (T.side c F G true) = .tuple #[.int .i64 (kgn : Int), .int .i64 (rgn : Int), .bool true] ∧ kg c ((F : Int), (G : Int), p, d, ca) = kgn ∧ rg c ((F : Int), (G : Int), p, d, ca) = rgn
theorem fine_of (c : Nat → Int) (m : Mv) (hc : PosOk c) (h : m ∈ all c) : ∃ F G p d ca, m = (((F : Nat) : Int), ((G : Nat) : Int), p, d, ca) ∧ Fine c F G p d ca (Z.taken c m) := by
  have ht := (taken_bd c m).2
  obtain ⟨h78, h | h | h⟩ := all_mem c m hc h
  · obtain ⟨F, G, k, hF, hG, hk, rfl⟩ := h
    exact ⟨F, G, k, 0, false, rfl, ⟨hF, hG, by omega, by omega, by omega, by omega, ht, h78, hc, (fun e => by cases e), (fun e => by cases e)⟩⟩
  · obtain ⟨F, G, kgn, rgn, hF, hG, hk, hr, hgo, ek, er, rfl⟩ := h
    exact ⟨F, G, 0, 0, true, rfl, ⟨hF, hG, by omega, by omega, by omega, by omega, ht, h78, hc, (fun _ => by rw [ek, er]; exact ⟨hk, hr⟩), (fun _ => ⟨rfl, kgn, rgn, hk, hr, hgo, ek, er⟩)⟩⟩
  · obtain ⟨s, k, hs, h1, h5, rfl⟩ := h
    exact ⟨s, s, 0, k, false, rfl, ⟨hs, hs, by omega, by omega, by omega, by omega, ht, h78, hc, (fun e => by cases e), (fun e => by cases e)⟩⟩
section
variable {c : Nat → Int} {F G : Nat} {p d : Int} {ca : Bool} {t : Int} (h : Fine c F G p d ca t)
include h
theorem Fine.t0 : 0 ≤ c 78 := (pos_u8 h.ok (i := 78) (by decide) rfl).1
theorem Fine.step_ok : ∀ n, n ≤ 7 → PosOk (step c ((F : Int), (G : Int), p, d, ca) t n) ∧ (n ≤ 6 → step c ((F : Int), (G : Int), p, d, ca) t n 78 = c 78) := by
  have h1 := ok_men h.ok F G p d ca t h.F64 h.G64 h.c78 ⟨h.p0, h.p1⟩ ⟨h.d0, h.d1⟩ h.t64 h.kr
  have e1 := men_78 c F G p d ca t h.F64 h.G64 h.t64 h.t0 h.kr
  have h2 := ok_pocket h1 c ((F : Int), (G : Int), p, d, ca) t
  have e2 := pocket_78 c ((F : Int), (G : Int), p, d, ca) t (show 0 ≤ men c ((F : Int), (G : Int), p, d, ca) t 78 by rw [e1]; exact h.t0)
  rw [e1] at e2
  have h3 := ok_blow h2 ((F : Int), (G : Int), p, d, ca) t
  have e3 := blow_78 (pocket c (men c ((F : Int), (G : Int), p, d, ca) t) ((F : Int), (G : Int), p, d, ca) t) ((F : Int), (G : Int), p, d, ca) t
  rw [e2] at e3
  have h4 := ok_rights h3 c ((F : Int), (G : Int), p, d, ca) t (by rw [e3]; exact h.c78)
  have e4 := rights_78 c (blow (pocket c (men c ((F : Int), (G : Int), p, d, ca) t) ((F : Int), (G : Int), p, d, ca) t) ((F : Int), (G : Int), p, d, ca) t) ((F : Int), (G : Int), p, d, ca) t
  rw [e3] at e4
  have h5 := ok_pass h4 c F G p d ca h.F64 h.G64
  have e5 := pass_78 c (rights c (blow (pocket c (men c ((F : Int), (G : Int), p, d, ca) t) ((F : Int), (G : Int), p, d, ca) t) ((F : Int), (G : Int), p, d, ca) t) ((F : Int), (G : Int), p, d, ca) t) ((F : Int), (G : Int), p, d, ca)
  rw [e4] at e5
  have h6 := ok_clocks h5 c ((F : Int), (G : Int), p, d, ca) t
  have e6 := clocks_78 c (pass c (rights c (blow (pocket c (men c ((F : Int), (G : Int), p, d, ca) t) ((F : Int), (G : Int), p, d, ca) t) ((F : Int), (G : Int), p, d, ca) t) ((F : Int), (G : Int), p, d, ca) t) ((F : Int), (G : Int), p, d, ca)) ((F : Int), (G : Int), p, d, ca) t
  rw [e5] at e6
  have h7 := ok_turn h6 (by rw [e6]; exact h.c78)
  intro n hn
  match n, hn with
  | 0, _ => exact ⟨h.ok, fun _ => rfl⟩
  | 1, _ => exact ⟨h1, fun _ => e1⟩
  | 2, _ => exact ⟨h2, fun _ => e2⟩
  | 3, _ => exact ⟨h3, fun _ => e3⟩
  | 4, _ => exact ⟨h4, fun _ => e4⟩
  | 5, _ => exact ⟨h5, fun _ => e5⟩
  | 6, _ => exact ⟨h6, fun _ => e6⟩
  | 7, _ => exact ⟨h7, fun h => by omega⟩
end
end A
section
variable {c : Nat → Int} {F G : Nat} {p d : Int} {ca : Bool} {t : Int} (h : A.Fine c F G p d ca t) {b : Nat} {w0 w : World}
include h
theorem mstep_0 (hM : A.MvAt w b (A.step c ((F : Int), (G : Int), p, d, ca) t 0) c ((F : Int), (G : Int), p, d, ca) t) :
    Calls Tryz.prog 62 #[.pointer (some ⟨b, 0, none⟩)] w fun e w' => e = .returned (.tuple #[]) ∧ A.Step b (A.step c ((F : Int), (G : Int), p, d, ca) t 1) c ((F : Int), (G : Int), p, d, ca) t w w' := by
  cases ca
  · cases hd : (d != 0)
    · cases dt : decide (0 ≤ t)
      · cases hp : (p != 0)
        · exact mmen_nq c F G p d t b w hM h.F64 h.G64 h.ok hd hp h.p0 h.p1 dt
        · exact mmen_np c F G p d t b w hM h.F64 h.G64 h.ok hd hp h.p0 h.p1 dt
      · have ht0 : 0 ≤ t := by simpa using dt
        have ht64 := h.t64
        cases hp : (p != 0)
        · exact mmen_tq c F G p d t b w hM h.F64 h.G64 h.ok hd hp h.p0 h.p1 t.toNat (by omega) (by omega)
        · exact mmen_tp c F G p d t b w hM h.F64 h.G64 h.ok hd hp h.p0 h.p1 t.toNat (by omega) (by omega)
    · exact mmen_drop c F G p d t b w hM h.G64 h.ok hd h.d0 h.d1
  · obtain ⟨_, kgn, rgn, hk, hr, hgo, ek, er⟩ := h.cast rfl
    exact mmen_castle c F G p d t b w hM h.G64 h.ok h.F64 kgn rgn hk hr hgo ek er
theorem mstep_1 (hM : A.MvAt w b (A.step c ((F : Int), (G : Int), p, d, ca) t 1) c ((F : Int), (G : Int), p, d, ca) t) :
    Calls Tryz.prog 63 #[.pointer (some ⟨b, 0, none⟩)] w fun e w' => e = .returned (.tuple #[]) ∧ A.Step b (A.step c ((F : Int), (G : Int), p, d, ca) t 2) c ((F : Int), (G : Int), p, d, ca) t w w' := by
  have hq := (h.step_ok 1 (by decide)).1
  show Calls _ _ _ _ fun e w' => e = .returned (.tuple #[]) ∧ A.Step b (A.pocket c (A.step c ((F : Int), (G : Int), p, d, ca) t 1) ((F : Int), (G : Int), p, d, ca) t) c ((F : Int), (G : Int), p, d, ca) t w w'
  generalize A.step c ((F : Int), (G : Int), p, d, ca) t 1 = q at *
  cases d1 : (q 0 != 2)
  · cases ca
    · cases hd : (d != 0)
      · have hd0 : d = 0 := by simpa using hd
        subst hd0
        exact mpocket_p q c F G p t b w hM h.F64 h.G64 h.ok hq h.t64 d1
      · exact mpocket_d q c F G p d false t b w hM d1 hd
    · obtain ⟨hd0, kgn, rgn, hk, hr, hgo, ek, er⟩ := h.cast rfl
      subst hd0
      cases hm : A.mark c (G : Int)
      · exact mpocket_cf q c F G p t b w hM h.F64 h.G64 h.ok d1 kgn rgn hgo hm
      · exact mpocket_ct q c F G p t b w hM h.F64 h.G64 h.ok hq d1 kgn rgn hgo hr er hm
  · exact mpocket_v q c F G p d ca t b w hM d1
theorem mstep_2 (hM : A.MvAt w b (A.step c ((F : Int), (G : Int), p, d, ca) t 2) c ((F : Int), (G : Int), p, d, ca) t) (hC : A.Ctx w0 w b) :
    Calls Tryz.prog 64 #[.pointer (some ⟨b, 0, none⟩)] w fun e w' => e = .returned (.tuple #[]) ∧ A.Step b (A.step c ((F : Int), (G : Int), p, d, ca) t 3) c ((F : Int), (G : Int), p, d, ca) t w w' :=
  mblow_any _ c F G p d ca t b w0 w hM hC h.G64 (pos_bd (h.step_ok 2 (by decide)).1)
theorem mstep_4 (hM : A.MvAt w b (A.step c ((F : Int), (G : Int), p, d, ca) t 4) c ((F : Int), (G : Int), p, d, ca) t) :
    Calls Tryz.prog 66 #[.pointer (some ⟨b, 0, none⟩)] w fun e w' => e = .returned (.tuple #[]) ∧ A.Step b (A.step c ((F : Int), (G : Int), p, d, ca) t 5) c ((F : Int), (G : Int), p, d, ca) t w w' :=
  mpass_any _ c F G p d ca t b w hM h.F64 h.G64 (pos_bd h.ok) (h.step_ok 4 (by decide)).1 (by have := (h.step_ok 4 (by decide)).2 (by decide); have h7 := h.c78; rw [← this] at h7; exact h7)
theorem mstep_5 (hM : A.MvAt w b (A.step c ((F : Int), (G : Int), p, d, ca) t 5) c ((F : Int), (G : Int), p, d, ca) t) :
    Calls Tryz.prog 67 #[.pointer (some ⟨b, 0, none⟩)] w fun e w' => e = .returned (.tuple #[]) ∧ A.Step b (A.step c ((F : Int), (G : Int), p, d, ca) t 6) c ((F : Int), (G : Int), p, d, ca) t w w' :=
  mclocks_any _ c F G p d ca t b w hM h.F64 (pos_bd h.ok) (h.step_ok 5 (by decide)).1
theorem mstep_6 (hM : A.MvAt w b (A.step c ((F : Int), (G : Int), p, d, ca) t 6) c ((F : Int), (G : Int), p, d, ca) t) (hC : A.Ctx w0 w b) :
    Calls Tryz.prog 68 #[.pointer (some ⟨b, 0, none⟩)] w fun e w' => e = .returned (.tuple #[]) ∧ A.Step b (A.step c ((F : Int), (G : Int), p, d, ca) t 7) c ((F : Int), (G : Int), p, d, ca) t w w' :=
  mturn_any _ c _ t b w0 w hM hC (h.step_ok 6 (by decide)).1 (by have := (h.step_ok 6 (by decide)).2 (by decide); have h7 := h.c78; rw [← this] at h7; exact h7)
end
end Go.Proofs.YtgkndhpolcnjbaaGreatDoor
namespace Go.Proofs.YtgkndhpolcnjbaaGreatDoor
open Go.RowKit Go.Sort
section
variable {c : Nat → Int} {F G : Nat} {p d : Int} {ca : Bool} {t : Int} (h : A.Fine c F G p d ca t) {b : Nat} {w0 w : World}
include h
theorem mstep_3 (hM : A.MvAt w b (A.step c ((F : Int), (G : Int), p, d, ca) t 3) c ((F : Int), (G : Int), p, d, ca) t) (hC : A.Ctx w0 w b) :
    Calls Tryz.prog 65 #[.pointer (some ⟨b, 0, none⟩)] w fun e w' => e = .returned (.tuple #[]) ∧ A.Step b (A.step c ((F : Int), (G : Int), p, d, ca) t 4) c ((F : Int), (G : Int), p, d, ca) t w w' :=
  mrights_any _ c F G p d ca t b w0 w hM hC h.F64 (pos_bd h.ok) (h.step_ok 3 (by decide)).1 (by have := (h.step_ok 3 (by decide)).2 (by decide); have h7 := h.c78; rw [← this] at h7; exact h7)
end
end Go.Proofs.YtgkndhpolcnjbaaGreatDoor
