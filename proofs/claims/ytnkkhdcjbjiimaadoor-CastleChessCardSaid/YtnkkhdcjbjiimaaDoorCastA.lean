/- The program's package castle: goals, home, the squares from one to another one. -/
import Derived.Test.YtnkkhdcjbjiimaaDoorLawX
import Derived.Test.YtnkkhdcjbjiimaaDoorRow
import Derived.RangeFuncBox
namespace Go.Proofs.YtnkkhdcjbjiimaaDoor
open Go.RowKit Go.Sort
attribute [local go_sem] Oper.semAt_some

set_option maxRecDepth 100000 in
theorem goals_any (w : World) : Calls Tryd.prog 44 #[] w fun e w' => e = .returned (.agg #[.int .i64 6, .int .i64 5, .int .i64 2, .int .i64 3]) ∧ Below w.heap.size w w' := by
  go_enter Tryd.func44, Tryd.ntmps44
  go_wp2
  have hR := RowAt.new w #[.int .i64 6, .int .i64 5, .int .i64 2, .int .i64 3] 78
  exact bodyPost_ret (v := .agg #[.int .i64 6, .int .i64 5, .int .i64 2, .int .i64 3]) (results_cell_row Tryd.results44 _ _ w.heap.size 78 _ (0, 0) _ rfl hR.heap Tryd.underlying78 rfl (by kernel_rfl)) rfl ⟨rfl, (Below.refl _ _).alloc (Nat.le_refl _) _⟩
set_option maxRecDepth 100000 in
theorem home_any (color : Int) (w : World) (h : color = 0 ∨ color = 1) : Calls Tryd.prog 39 #[.int .u8 color] w fun e w' => e = .returned (.int .i64 (56 * color)) ∧ w = w' := by
  rcases h with rfl | rfl
  all_goals
    go_enter Tryd.func39, Tryd.ntmps39
    go_wp2
    go_ret
    exact ⟨rfl, rfl⟩

namespace T
def sq (x : Nat) : Fin 64 := ⟨x % 64, Nat.mod_lt _ (by decide)⟩
theorem sq_val (x : Nat) (h : x < 64) : (sq x).val = x := Nat.mod_eq_of_lt h
/-- The squares from one to another one, both counted. -/
def seg (a b : Nat) : List (Fin 64) := (List.range (max a b - min a b + 1)).map fun i => sq (i + min a b)
def upTo (a b n : Nat) : List (Fin 64) := (List.range n).map fun i => sq (i + min a b)
theorem upTo_succ (a b n : Nat) : upTo a b (n + 1) = upTo a b n ++ [sq (n + min a b)] := by simp [upTo, List.range_succ]
theorem upTo_len (a b n : Nat) : (upTo a b n).length = n := by simp [upTo]
theorem upTo_prefix (a b n : Nat) (h : n ≤ max a b - min a b + 1) : upTo a b n <+: seg a b := by
  refine ⟨((List.range (max a b - min a b + 1)).drop n).map fun i => sq (i + min a b), ?_⟩
  unfold upTo seg
  rw [← List.map_append]
  congr 1
  have : List.range n = (List.range (max a b - min a b + 1)).take n := by rw [List.take_range, Nat.min_eq_left h]
  rw [this, List.take_append_drop]
end T

set_option maxRecDepth 100000 in
theorem cfrom_any (n : Nat) (a b : Nat) (w : World) : CallsIn Fence.wide n Tryd.prog 94 #[.int .i64 (a : Int), .int .i64 (b : Int)] w fun e w' => e = .returned (.func (.func 110) #[] #[.pointer (some ⟨w.heap.size, 0, none⟩), .pointer (some ⟨w.heap.size + 1, 0, none⟩)]) ∧ w' = (w.alloc (.cells #[.int .i64 (a : Int)] 3)).alloc (.cells #[.int .i64 (b : Int)] 3) := by
  refine callsIn_wide.2 ?_
  go_enter Tryd.func94, Tryd.ntmps94
  go_wp2
  go_ret
  exact ⟨by simp, rfl⟩

set_option maxRecDepth 100000 in
set_option maxHeartbeats 2000000 in
theorem from1_in (n l Ba Bb n₀ a b : Nat) (J Jx : List (Fin 64) → World → Prop) (ha : a < 64) (hb : b < 64)
    (hY : ∀ (pre : List (Fin 64)) (x : Fin 64) W, J pre W → pre.length < (T.seg a b).length → YieldAt Fence.wide (n - 1) Tryd.prog l #[.int .i64 ((x.val : Nat) : Int)] W fun e W' =>
      (e = .returned (.bool true) ∧ J (pre ++ [x]) W' ∧ Below n₀ W W') ∨ (e = .returned (.bool false) ∧ Jx (pre ++ [x]) W'))
    (W : World) (hBa : Ba < n₀) (hBb : Bb < n₀) (ca : W.cell? ⟨Ba, 0, none⟩ = some (.int .i64 (a : Int))) (cb : W.cell? ⟨Bb, 0, none⟩ = some (.int .i64 (b : Int))) (h0 : J [] W) :
    CallsIn Fence.wide n Tryd.prog 110 #[.func (.yield l) #[] #[], .pointer (some ⟨Ba, 0, none⟩), .pointer (some ⟨Bb, 0, none⟩)] W fun e W' => (∃ v, e = .returned v) ∧
      ((∃ ys, ys = T.seg a b ∧ J ys W') ∨ (∃ pre, pre <+: T.seg a b ∧ Jx pre W')) := by
  refine callsIn_of_wp Tryd.func110 rfl trivial ?_ rfl
  simp only [Tryd.ntmps110, List.size_toArray, List.length_cons, List.length_nil, Nat.reduceAdd, Nat.reduceSub, Array.replicate_succ, Array.replicate_zero, List.push_toArray, List.append_toArray, List.nil_append, List.cons_append]
  obtain ⟨lo, hlo⟩ : ∃ lo : Nat, min a b = lo := ⟨_, rfl⟩
  obtain ⟨hi, hhi⟩ : ∃ hi : Nat, max a b = hi := ⟨_, rfl⟩
  have hlo' : min (a : Int) (b : Int) = (lo : Int) := by omega
  have hhi' : max (a : Int) (b : Int) = (hi : Int) := by omega
  have hlh : lo ≤ hi ∧ hi < 64 := by omega
  have hlen : (T.seg a b).length = hi - lo + 1 := by unfold T.seg; rw [hlo, hhi]; simp
  have hup : ∀ m, T.upTo a b (m + 1) = T.upTo a b m ++ [T.sq (m + lo)] := fun m => by rw [T.upTo_succ, hlo]
  have hsg : T.seg a b = T.upTo a b (hi - lo + 1) := by unfold T.seg T.upTo; rw [hlo, hhi]
  have hpf : ∀ m, m ≤ hi - lo + 1 → T.upTo a b m <+: T.seg a b := fun m hm => T.upTo_prefix a b m (by rw [hlo, hhi]; exact hm)
  rw [hlen] at hY
  have HY := Lib.hid hY
  have Hup := Lib.hid hup
  have Hsg := Lib.hid hsg
  have Hpf := Lib.hid hpf
  clear hY hup hsg hpf hlen hlo hhi
  gi_wp2
  gi_loopw [4] (fun v wr => ∃ m x : Nat, m ≤ hi - lo + 1 ∧ v = .int .i64 (x : Int) ∧ x = m + lo ∧ J (T.upTo a b m) wr ∧ wr.cell? ⟨Ba, 0, none⟩ = some (.int .i64 (a : Int)) ∧ wr.cell? ⟨Bb, 0, none⟩ = some (.int .i64 (b : Int))) (fun v _ => hi + 1 - (intOf v).toNat)
  case atStart => exact ⟨0, lo, by omega, rfl, by rw [Nat.zero_add], h0, ca, cb⟩
  case round =>
    obtain ⟨m, x, hm, rfl, hx, hJ, ca, cb⟩ := hrel
    by_cases hlt : m < hi - lo + 1
    · obtain ⟨fn, tmps, assign, body, hy, hR⟩ := HY.out (T.upTo a b m) (T.sq x) wr hJ (by rw [T.upTo_len]; exact hlt)
      rw [T.sq_val x (by omega)] at hy
      have h1 : (x : Int) ≤ (hi : Int) := by omega
      have Hx := Lib.hid hx
      clear hx
      gi_wp2
      refine ⟨fun h => by simp [Fence.wide] at h, hR.mono ?_⟩
      rintro e W3 (⟨rfl, hJ3, hk3⟩ | ⟨rfl, hJx3⟩)
      · have ca3 := (hk3.cell (p := ⟨Ba, 0, none⟩) hBa).trans ca
        have cb3 := (hk3.cell (p := ⟨Bb, 0, none⟩) hBb).trans cb
        gi_wp2
        go_roundw
        case rel => exact ⟨m + 1, x + 1, by omega, by go_num, by have := Hx.out; omega, by rw [Hup.out, ← Hx.out]; exact hJ3, ca3, cb3⟩
        case measure => simp [intOf]; have := Hx.out; omega
      · gi_wp2
        refine bodyPost_ret (results_none rfl _ _ _) rfl ?_
        exact ⟨⟨_, rfl⟩, .inr ⟨T.upTo a b m ++ [T.sq x], by rw [Hx.out, ← Hup.out]; exact Hpf.out (m + 1) (by omega), hJx3⟩⟩
    · have hme : m = hi - lo + 1 := by omega
      rw [hme, ← Hsg.out] at hJ
      have h1 : ¬ ((x : Int) ≤ (hi : Int)) := by omega
      gi_wp2
      go_end0
      exact ⟨⟨_, rfl⟩, .inl hJ⟩

theorem from1_stops (n Ba Bb n₀ a b : Nat) (ha : a < 64) (hb : b < 64) (w : World) (hBa : Ba < n₀) (hBb : Bb < n₀) (hn₀ : n₀ ≤ w.heap.size)
    (ca : w.cell? ⟨Ba, 0, none⟩ = some (.int .i64 (a : Int))) (cb : w.cell? ⟨Bb, 0, none⟩ = some (.int .i64 (b : Int))) :
    SeqStopsK Fence.wide n Tryd.prog 110 #[.pointer (some ⟨Ba, 0, none⟩), .pointer (some ⟨Bb, 0, none⟩)] (fun x : Fin 64 => #[Value.int .i64 ((x.val : Nat) : Int)]) (Below n₀) (fun ys => ys = T.seg a b) (fun pre => pre <+: T.seg a b) (T.seg a b).length w := fun l J Jx W hW _ _ hY h0 =>
  from1_in n l Ba Bb n₀ a b J Jx ha hb hY W hBa hBb ((hW.cell (p := ⟨Ba, 0, none⟩) (by show Ba < _; omega)).trans ca) ((hW.cell (p := ⟨Bb, 0, none⟩) (by show Bb < _; omega)).trans cb) h0

end Go.Proofs.YtnkkhdcjbjiimaaDoor
