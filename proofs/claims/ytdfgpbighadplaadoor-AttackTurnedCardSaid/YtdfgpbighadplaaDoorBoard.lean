/- The program's package board: what each function computes. -/
import Derived.Test.YtdfgpbighadplaaDoorSlides
import Derived.Test.YtdfgpbighadplaaDoorPieces
import Derived.Test.YtdfgpbighadplaaDoorPos
import Derived.Deep.MidRow
namespace Go.Proofs.YtdfgpbighadplaaDoor
open Go.RowKit Go.Sort

/-- The board's cells are bytes. -/
def BdOk (c : Nat → Int) : Prop := ∀ s, s < 64 → 0 ≤ c (1 + s) ∧ c (1 + s) ≤ 255
def bdL (c : Nat → Int) : List Value := (List.range 64).map fun i => Value.int .u8 (c (1 + i))
theorem bdL_get (c : Nat → Int) (i : Nat) (h : i < 64) : (bdL c)[i]? = some (.int .u8 (c (1 + i))) := by simp [bdL, h]
theorem bd_range {w : World} {b : Nat} {t : TypeId} {fr : Nat × Nat} {c : Nat → Int} (hg : w.heap[b]? = some (.cells (posC c) t fr)) : w.rangeAt b 1 (bdL c) := by
  intro j v hv
  by_cases h : j < 64
  · rw [bdL_get c j h] at hv
    simp only [World.cell?, hg]
    rw [← hv]
    exact posC_board c j h
  · rw [List.getElem?_eq_none (by simp [bdL]; omega)] at hv; cases hv
theorem Tryd.infoBd : (Tryd.prog.info? 22).map (·.size) = some 64 := by kernel_rfl
theorem wp_load_bd {ops : Array Oper} {rest : List Oper} {op : Oper} {a : Act} {w : World} {Q : Exit → Act → World → Prop} (hgd : op.guard = none) (x : Operand) (ho : op.op = .load 22 x)
    (c : Nat → Int) (hx : ∃ b t fr, a.eval x = .pointer (some ⟨b, 1, none⟩) ∧ w.heap[b]? = some (.cells (posC c) t fr))
    (h : wpList Tryd.prog ops Q rest (a.put op.dst (.agg (bdL c).toArray)) w) : wpList Tryd.prog ops Q (op :: rest) a w :=
  let ⟨b, t, fr, h1, hg⟩ := hx
  wpList_load_mid hgd 22 x ho b 1 h1 (bdL c) _ (bd_range hg) Tryd.underlying22 rfl (by rw [Tryd.infoBd]; simp [bdL]) h
theorem bd_index (c : Nat → Int) (k : Nat) (hk : k < 64) (w : World) : (Instr.index 22 (.agg (bdL c).toArray) (.int .i64 (k : Int))).run Tryd.prog w = .ok (.int .u8 (c (1 + k))) w := by
  have h2 : ((k : Int) < 64) := by omega
  have e := bdL_get c k hk
  simp [Instr.index, run_underlying Tryd.underlying22, asIntOf, go_sem, part, e, hk]

namespace S
def upTo (c : Nat → Int) (g : Int → Bool) : Nat → BitVec 64
  | 0 => 0#64
  | n + 1 => if P.isB (c (1 + n)) && g (c (1 + n)) then B.put (upTo c g n) n else upTo c g n
def set (c : Nat → Int) (g : Int → Bool) : BitVec 64 := upTo c g 64
def ofG (color kind : Int) (x : Int) : Bool := P.color x == color && (kind == 0 || P.kind x == kind)
def of (c : Nat → Int) (color kind : Int) : BitVec 64 := set c (ofG color kind)
def all (c : Nat → Int) : BitVec 64 := set c fun _ => true
def find (c : Nat → Int) (color kind : Int) : Int := B.first (of c color kind)
theorem upTo_yes (c : Nat → Int) (g : Int → Bool) (n : Nat) (h : P.isB (c (1 + n)) = true) (h2 : g (c (1 + n)) = true) : upTo c g (n + 1) = B.put (upTo c g n) n := by rw [upTo, h, h2]; rfl
theorem upTo_no (c : Nat → Int) (g : Int → Bool) (n : Nat) (h : P.isB (c (1 + n)) = true) (h2 : g (c (1 + n)) = false) : upTo c g (n + 1) = upTo c g n := by rw [upTo, h, h2]; rfl
theorem upTo_none (c : Nat → Int) (g : Int → Bool) (n : Nat) (h : P.isB (c (1 + n)) = false) : upTo c g (n + 1) = upTo c g n := by rw [upTo, h]; rfl
end S

set_option maxRecDepth 100000 in
set_option maxHeartbeats 1000000 in
theorem all1_any (x : Int) (w : World) :
    Calls Tryd.prog 38 #[.int .u8 x] w fun e w' => e = .returned (.bool true) ∧ w = w' := by
  go_enter Tryd.func38, Tryd.ntmps38
  go_wp2
  go_ret
  exact ⟨rfl, rfl⟩

theorem alloc_pos_new (w : World) (c : Nat → Int) : (w.alloc (.cells (posC c) 31)).heap[w.heap.size]? = some (.cells (posC c) 31 (0, 0)) := heap_alloc_new _ _

set_option maxRecDepth 100000 in
set_option maxHeartbeats 1000000 in
theorem set_all (c : Nat → Int) (w : World) (hc : BdOk c) :
    Calls Tryd.prog 37 #[.agg (posC c), .func (.func 38) #[] #[]] w fun e w' => e = .returned (.int .u64 (U (S.all c))) ∧ Below w.heap.size w w' := by
  have Hc := Lib.hid hc
  clear hc
  go_enter Tryd.func37, Tryd.ntmps37
  go_wp2_with ((with_reducible refine wp_load_bd rfl _ rfl c ?_ ?_); · (exact ⟨_, _, _, rfl, heap_alloc_new _ _⟩))
  go_loopw [5, 10] (fun v i wr => ∃ k : Nat, k ≤ 64 ∧ i = .int .i64 (k : Int) ∧ v = .int .u64 (U (S.upTo c (fun _ => true) k)) ∧ Below w.heap.size w wr) (fun _ i _ => 64 - (intOf i).toNat)
  case atStart => exact ⟨0, Nat.zero_le _, rfl, rfl, (Below.refl _ _).alloc (Nat.le_refl _) _⟩
  case round =>
    obtain ⟨k, hk, rfl, rfl, hbr⟩ := hrel
    by_cases hlt : k < 64
    · have hi := bd_index c k hlt
      obtain ⟨h0, h1⟩ := Hc.out k hlt
      by_cases hP : P.isB (c (1 + k)) = true
      · have HP := Lib.hid hP
        clear hP
        go_wp2_with (first | (go_at_call 41; refine (is_eq _ true _ h0 h1 HP.out).mono ?_; rintro e w' ⟨rfl, rfl⟩) | (go_at_call 38; refine (all1_any _ _).mono ?_; rintro e w' ⟨rfl, rfl⟩) | (go_at_call 57; refine (put_any _ _ _).mono ?_; rintro e w' ⟨rfl, rfl⟩))
        exact ⟨⟨k + 1, by omega, by go_num, by rw [S.upTo_yes _ _ _ HP.out rfl], hbr⟩, by simp [intOf]; omega⟩
      · have HP := Lib.hid (show P.isB (c (1 + k)) = false by simpa using hP)
        clear hP
        go_wp2_with (first | (go_at_call 41; refine (is_eq _ false _ h0 h1 HP.out).mono ?_; rintro e w' ⟨rfl, rfl⟩))
        exact ⟨⟨k + 1, by omega, by go_num, by rw [S.upTo_none _ _ _ HP.out], hbr⟩, by simp [intOf]; omega⟩
    · obtain rfl : k = 64 := by omega
      go_wp2
      go_ret
      exact ⟨rfl, hbr⟩

set_option maxRecDepth 100000 in
set_option maxHeartbeats 1000000 in
theorem all_any (c : Nat → Int) (w : World) (hc : BdOk c) :
    Calls Tryd.prog 26 #[.agg (posC c)] w fun e w' => e = .returned (.int .u64 (U (S.all c))) ∧ Below w.heap.size w w' := by
  have Hc := Lib.hid hc
  clear hc
  go_enter Tryd.func26, Tryd.ntmps26
  go_wp2_with (first | ((with_reducible refine wp_load_pos rfl _ rfl c ?_ ?_); · (exact ⟨_, _, _, rfl, heap_alloc_new _ _⟩)) | (go_at_call 37; refine (set_all c _ Hc.out).mono ?_; rintro e w1 ⟨rfl, hb1⟩))
  go_ret
  exact ⟨rfl, ((Below.refl _ _).alloc (Nat.le_refl _) _).trans (hb1.mono (by simp))⟩

set_option maxRecDepth 100000 in
set_option maxHeartbeats 1000000 in
theorem of1_any (x color kind : Int) (b1 b2 : Nat) (w : World) (h0 : 0 ≤ x) (h1 : x ≤ 255) (c1 : w.cell? ⟨b1, 0, none⟩ = some (.int .u8 color)) (c2 : w.cell? ⟨b2, 0, none⟩ = some (.int .u8 kind)) :
    Calls Tryd.prog 40 #[.int .u8 x, .pointer (some ⟨b1, 0, none⟩), .pointer (some ⟨b2, 0, none⟩)] w fun e w' => e = .returned (.bool (S.ofG color kind x)) ∧ Below w.heap.size w w' := by
  cases e1 : (P.color x == color) <;> cases e2 : (kind == 0)
  all_goals
    go_enter Tryd.func40, Tryd.ntmps40
    go_wp2
    go_quiet ((first | (go_at_call 31; exact quiet_same (color_any _ _ (by omega) (by omega))) | (go_at_call 29; exact quiet_same (kind_any _ _ (by omega) (by omega)))))
    go_wp2
    go_ret
    exact ⟨ret_bool (by unfold S.ofG; rw [e1, e2]; simp), below_drewN (Below.refl _ _) _⟩

/-- The closure that 'Of' hands on. -/
def OfOk (B1 B2 : Nat) (color kind : Int) (w : World) : Prop := ∀ (x : Int) (w' : World), 0 ≤ x → x ≤ 255 → Below w.heap.size w w' → Calls Tryd.prog 40 #[.int .u8 x, .pointer (some ⟨B1, 0, none⟩), .pointer (some ⟨B2, 0, none⟩)] w' fun e w'' => e = .returned (.bool (S.ofG color kind x)) ∧ Below w'.heap.size w' w''

set_option maxRecDepth 100000 in
set_option maxHeartbeats 1000000 in
theorem set_of (c : Nat → Int) (color kind : Int) (B1 B2 : Nat) (w : World) (hc : BdOk c) (h : OfOk B1 B2 color kind w) :
    Calls Tryd.prog 37 #[.agg (posC c), .func (.func 40) #[] #[.pointer (some ⟨B1, 0, none⟩), .pointer (some ⟨B2, 0, none⟩)]] w fun e w' => e = .returned (.int .u64 (U (S.of c color kind))) ∧ Below w.heap.size w w' := by
  have Hc := Lib.hid hc
  have H := Lib.hid h
  clear hc h
  go_enter Tryd.func37, Tryd.ntmps37
  go_wp2_with ((with_reducible refine wp_load_bd rfl _ rfl c ?_ ?_); · (exact ⟨_, _, _, rfl, heap_alloc_new _ _⟩))
  go_loopw [5, 10] (fun v i wr => ∃ k : Nat, k ≤ 64 ∧ i = .int .i64 (k : Int) ∧ v = .int .u64 (U (S.upTo c (S.ofG color kind) k)) ∧ Below w.heap.size w wr) (fun _ i _ => 64 - (intOf i).toNat)
  case atStart => exact ⟨0, Nat.zero_le _, rfl, rfl, (Below.refl _ _).alloc (Nat.le_refl _) _⟩
  case round =>
    obtain ⟨k, hk, rfl, rfl, hbr⟩ := hrel
    by_cases hlt : k < 64
    · have hi := bd_index c k hlt
      obtain ⟨h0, h1⟩ := Hc.out k hlt
      by_cases hP : P.isB (c (1 + k)) = true
      · have HP := Lib.hid hP
        clear hP
        cases hq : S.ofG color kind (c (1 + k))
        · go_wp2_with (first | (go_at_call 41; refine (is_eq _ true _ h0 h1 HP.out).mono ?_; rintro e w' ⟨rfl, rfl⟩) | (go_at_call 40; refine (H.out _ _ h0 h1 hbr).mono ?_; rintro e w1 ⟨rfl, hb1⟩))
          exact ⟨⟨k + 1, by omega, by go_num, by rw [S.upTo_no _ _ _ HP.out hq], below_next hbr hb1⟩, by simp [intOf]; omega⟩
        · go_wp2_with (first | (go_at_call 41; refine (is_eq _ true _ h0 h1 HP.out).mono ?_; rintro e w' ⟨rfl, rfl⟩) | (go_at_call 40; refine (H.out _ _ h0 h1 hbr).mono ?_; rintro e w1 ⟨rfl, hb1⟩) | (go_at_call 57; refine (put_any _ _ _).mono ?_; rintro e w' ⟨rfl, rfl⟩))
          exact ⟨⟨k + 1, by omega, by go_num, by rw [S.upTo_yes _ _ _ HP.out hq], below_next hbr hb1⟩, by simp [intOf]; omega⟩
      · have HP := Lib.hid (show P.isB (c (1 + k)) = false by simpa using hP)
        clear hP
        go_wp2_with (first | (go_at_call 41; refine (is_eq _ false _ h0 h1 HP.out).mono ?_; rintro e w' ⟨rfl, rfl⟩))
        exact ⟨⟨k + 1, by omega, by go_num, by rw [S.upTo_none _ _ _ HP.out], hbr⟩, by simp [intOf]; omega⟩
    · obtain rfl : k = 64 := by omega
      go_wp2
      go_ret
      exact ⟨rfl, hbr⟩

set_option maxRecDepth 100000 in
set_option maxHeartbeats 1000000 in
theorem of_any (c : Nat → Int) (color kind : Int) (w : World) (hc : BdOk c) :
    Calls Tryd.prog 28 #[.agg (posC c), .int .u8 color, .int .u8 kind] w fun e w' => e = .returned (.int .u64 (U (S.of c color kind))) ∧ Below w.heap.size w w' := by
  have Hc := Lib.hid hc
  clear hc
  have hO : OfOk (w.heap.size + 1) (w.heap.size + 1 + 1) color kind (((w.alloc (.cells (posC c) 31)).alloc (.cells #[.int .u8 color] 5)).alloc (.cells #[.int .u8 kind] 5)) := by
    intro x w' h0 h1 hb
    refine of1_any x color kind _ _ w' h0 h1 ?_ ?_
    · refine (hb.cell (p := ⟨_, 0, none⟩) (by simp <;> omega)).trans ?_
      simp [go_sem]
    · refine (hb.cell (p := ⟨_, 0, none⟩) (by simp <;> omega)).trans ?_
      simp [go_sem]
  have HO := Lib.hid hO
  clear hO
  have hmf : ∀ (fn : Fn) (first cap : Array Value) (w : World), (Instr.makeFunc fn first cap).run Tryd.prog w = .ok (.func fn first cap) w := fun _ _ _ _ => rfl
  go_enter Tryd.func28, Tryd.ntmps28
  go_wp2_with (first | ((with_reducible refine wp_load_pos rfl _ rfl c ?_ ?_); · (exact ⟨_, _, _, rfl, by repeat (first | exact heap_alloc_new _ _ | assumption | refine (Below.heap_alloc _ _ _ (by simp <;> omega)).trans ?_)⟩)) | (go_at_call 37; refine (set_of c color kind _ _ _ Hc.out HO.out).mono ?_; rintro e w1 ⟨rfl, hb1⟩))
  go_ret
  exact ⟨rfl, ((((Below.refl _ _).alloc (Nat.le_refl _) _).alloc (by simp) _).alloc (by simp <;> omega) _).trans (hb1.mono (by simp <;> omega))⟩

set_option maxRecDepth 100000 in
set_option maxHeartbeats 1000000 in
theorem find_any (c : Nat → Int) (color kind : Int) (w : World) (hc : BdOk c) (hT : Tb w) :
    Calls Tryd.prog 52 #[.agg (posC c), .int .u8 color, .int .u8 kind] w fun e w' => e = .returned (.int .i64 (S.find c color kind)) ∧ Below w.heap.size w w' := by
  have Hc := Lib.hid hc
  have HT := Lib.hid (tb_below hT ((Below.refl w.heap.size w).alloc (Nat.le_refl _) (.cells (posC c) 31)))
  clear hc hT
  go_enter Tryd.func52, Tryd.ntmps52
  go_wp2_with (first | ((with_reducible refine wp_load_pos rfl _ rfl c ?_ ?_); · (exact ⟨_, _, _, rfl, heap_alloc_new _ _⟩)) | (go_at_call 28; refine (of_any c _ _ _ Hc.out).mono ?_; rintro e w1 ⟨rfl, hb1⟩) | (go_at_call 67; refine (first_any _ _ (tb_below HT.out hb1)).mono ?_; rintro e w2 ⟨rfl, rfl⟩))
  go_ret
  exact ⟨rfl, ((Below.refl _ _).alloc (Nat.le_refl _) _).trans (hb1.mono (by simp))⟩

end Go.Proofs.YtdfgpbighadplaaDoor
