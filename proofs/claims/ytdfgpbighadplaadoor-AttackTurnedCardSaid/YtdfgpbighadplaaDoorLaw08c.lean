/- The laws of layer 8: lawful; AttackBoth. -/
import Derived.Test.YtdfgpbighadplaaDoorLaw08b
namespace Go.Proofs.YtdfgpbighadplaaDoor
open Go.RowKit Go.Sort

def okL (x : Int) : Bool := x == 0 || P.isB x
def lawTo (c : Nat → Int) : Nat → Nat → Bool
  | _, 0 => true
  | k, n + 1 => okL (c (1 + k)) && lawTo c (k + 1) n
def lawB (c : Nat → Int) : Bool := lawTo c 0 64
theorem lawTo_iff (c : Nat → Int) : ∀ n k, lawTo c k n = true ↔ ∀ j, k ≤ j → j < k + n → okL (c (1 + j)) = true
  | 0, k => by simp [lawTo]; intro j h1 h2; omega
  | n + 1, k => by
    rw [lawTo, Bool.and_eq_true, lawTo_iff c n (k + 1)]
    constructor
    · intro ⟨h, hr⟩ j h1 h2
      by_cases e : j = k
      · rw [e]; exact h
      · exact hr j (by omega) (by omega)
    · intro h
      exact ⟨h k (by omega) (by omega), fun j h1 h2 => h j (by omega) (by omega)⟩
theorem lawB_iff (c : Nat → Int) : lawB c = true ↔ ∀ j, j < 64 → okL (c (1 + j)) = true := by
  unfold lawB
  rw [lawTo_iff]
  exact ⟨fun h j hj => h j (by omega) (by omega), fun h j _ hj => h j (by omega)⟩
theorem okL_spec (x : Int) (h0 : 0 ≤ x) (h1 : x ≤ 255) : okL x = !(decide (x ≠ 0) && (decide (15 < x) || (decide (x % 8 < 1) || decide (6 < x % 8)))) :=
  all8 (fun x => okL x = !(decide (x ≠ 0) && (decide (15 < x) || (decide (x % 8 < 1) || decide (6 < x % 8))))) (by decide +kernel) x h0 h1

set_option maxRecDepth 100000 in
set_option maxHeartbeats 1000000 in
theorem lawful_any (c : Nat → Int) (w : World) (hc : BdOk c) :
    Calls Tryd.prog 20 #[.agg (posC c)] w fun e w' => e = .returned (.bool (lawB c)) ∧ Below w.heap.size w w' := by
  have Hc := Lib.hid hc
  clear hc
  go_enter Tryd.func20, Tryd.ntmps20
  go_wp2
  have HW := Lib.hid (heap_alloc_new w (.cells (posC c) 31))
  have Hb0 := Lib.hid ((Below.refl w.heap.size w).alloc (Nat.le_refl _) (.cells (posC c) 31))
  go_loopw [3] (fun i wr => ∃ k : Nat, k ≤ 64 ∧ i = .int .i64 (k : Int) ∧ lawB c = lawTo c k (64 - k) ∧ wr.heap[w.heap.size]? = some (.cells (posC c) 31 (0, 0)) ∧ Below w.heap.size w wr) (fun i _ => 64 - (intOf i).toNat)
  case atStart => exact ⟨0, Nat.zero_le _, rfl, rfl, HW.out, Hb0.out⟩
  case round =>
    obtain ⟨k, hk, rfl, he, hp, hbr⟩ := hrel
    have He := Lib.hid he
    clear he
    by_cases hlt : k < 64
    · obtain ⟨x0, x1⟩ := Hc.out k hlt
      have hcl := bd_cell hp k hlt
      have hs := okL_spec _ x0 x1
      have hst : lawTo c k (64 - k) = (okL (c (1 + k)) && lawTo c (k + 1) (64 - (k + 1))) := by rw [show 64 - k = (64 - (k + 1)) + 1 by omega, lawTo]
      have hm : (c (1 + k)).tmod 8 = c (1 + k) % 8 := Int.tmod_eq_emod_of_nonneg x0
      have He2 := Lib.hid (He.out.trans hst)
      clear He hst
      have HS := Lib.hid hs
      clear hs
      generalize c (1 + k) = x at *
      by_cases hz : x = 0
      · have ho := Lib.hid (show okL x = true by rw [hz]; rfl)
        subst hz
        go_wp2
        exact ⟨⟨k + 1, by omega, by go_num, by rw [He2.out, ho.out]; rfl, hp, hbr⟩, by simp [intOf]; omega⟩
      · have hb : (x != 0) = true := by simpa using hz
        have hd : decide (x ≠ 0) = true := by simpa using hz
        rw [hd] at HS
        clear hz hd
        by_cases h15 : 15 < x
        · have ho := Lib.hid (show okL x = false by rw [HS.out, decide_eq_true h15]; rfl)
          go_wp2
          go_ret
          exact ⟨ret_bool (by rw [He2.out, ho.out]; rfl), hbr⟩
        · by_cases h8 : x % 8 < 1
          · have ho := Lib.hid (show okL x = false by rw [HS.out, decide_eq_true h8]; simp)
            go_wp2
            go_ret
            exact ⟨ret_bool (by rw [He2.out, ho.out]; rfl), hbr⟩
          · by_cases h6 : 6 < x % 8
            · have ho := Lib.hid (show okL x = false by rw [HS.out, decide_eq_true h6]; simp)
              go_wp2
              go_ret
              exact ⟨ret_bool (by rw [He2.out, ho.out]; rfl), hbr⟩
            · have ho := Lib.hid (show okL x = true by rw [HS.out, decide_eq_false h15, decide_eq_false h8, decide_eq_false h6]; rfl)
              go_wp2
              exact ⟨⟨k + 1, by omega, by go_num, by rw [He2.out, ho.out]; rfl, hp, hbr⟩, by simp [intOf]; omega⟩
    · obtain rfl : k = 64 := by omega
      go_wp2
      go_ret
      exact ⟨ret_bool (by rw [He.out]; rfl), hbr⟩

theorem lawful_eq (c : Nat → Int) (b : Bool) (w : World) (hc : BdOk c) (h : lawB c = b) :
    Calls Tryd.prog 20 #[.agg (posC c)] w fun e w' => e = .returned (.bool b) ∧ Below w.heap.size w w' := by
  rw [← h]; exact lawful_any c w hc

end Go.Proofs.YtdfgpbighadplaaDoor
