/- The program's package valid: questions. -/
import Derived.Test.YtlphjjekamhnlaaDoorVpK
import Derived.Test.YtlphjjekamhnlaaDoorOwnL
import Derived.Test.YtlphjjekamhnlaaDoorList
namespace Go.Proofs.YtlphjjekamhnlaaDoor
open Go.RowKit Go.Sort
attribute [local go_sem] Oper.semAt_some

/-- The questions. -/
def Tryd.qs : Array Value := #[.int .i64 2, .func (.func 42) #[] #[], .int .i64 125, .func (.func 63) #[] #[], .int .i64 120, .func (.func 64) #[] #[], .int .i64 121, .func (.func 65) #[] #[], .int .i64 122, .func (.func 66) #[] #[], .int .i64 123, .func (.func 67) #[] #[], .int .i64 124, .func (.func 44) #[] #[], .int .i64 126, .func (.func 68) #[] #[]]
set_option maxRecDepth 100000 in
set_option maxHeartbeats 4000000 in
theorem questions_any (w : World) : Calls Tryd.prog 34 #[] w fun e w' => e = .returned (.agg Tryd.qs) ∧ Below w.heap.size w w' := by
  go_enter Tryd.func34, Tryd.ntmps34
  go_wp2_with (refine wp_store_row' rfl 67 _ _ rfl ⟨w.heap.size, 67, Tryd.qs, rfl, (by kernel_rfl), ⟨_, heap_alloc_new _ _, (by kernel_rfl)⟩, (by kernel_rfl), (by kernel_rfl), ?_⟩; intro W hP hq)
  exact bodyPost_ret (v := .agg Tryd.qs) (results_cell_row Tryd.results34 _ _ w.heap.size 67 _ (0, 0) _ rfl hq.heap Tryd.underlying67 rfl (by kernel_rfl)) rfl ⟨rfl, hP.below ((Below.refl _ _).alloc (Nat.le_refl _) _) (Nat.le_refl _)⟩
namespace Y
/-- What is asked. -/
def asks (c : Nat → Int) : Nat → Bool
  | 0 => plain c
  | 1 => clocks c
  | 2 => kings c
  | 3 => pawns c
  | 4 => pockets c
  | 5 => rooks c
  | 6 => passing c
  | 7 => check c
  | _ => true
def code : Nat → Int
  | 0 => 2
  | 1 => 125
  | 2 => 120
  | 3 => 121
  | 4 => 122
  | 5 => 123
  | 6 => 124
  | 7 => 126
  | _ => 0
/-- What is wrong among the first ones. -/
def pre (c : Nat → Int) : Nat → List Int
  | 0 => []
  | n + 1 => pre c n ++ err (asks c n) (code n)
theorem all_pre (c : Nat → Int) (h : plain c = true) : all c = pre c 8 := by
  unfold all
  rw [if_pos h]
  simp only [pre, asks, code, h]
  simp [err]
theorem pre_len (c : Nat → Int) : ∀ n, (pre c n).length ≤ n
  | 0 => Nat.le_refl _
  | n + 1 => by
    have := pre_len c n
    rw [pre, List.length_append]
    have : (err (asks c n) (code n)).length ≤ 1 := by unfold err; split <;> simp
    omega
theorem pre_no2 (c : Nat → Int) (h : plain c = true) : ∀ n x, x ∈ pre c n → x ≠ 2
  | 0, _, hx => by cases hx
  | n + 1, x, hx => by
    rw [pre, List.mem_append] at hx
    rcases hx with hx | hx
    · exact pre_no2 c h n x hx
    · unfold err at hx
      split at hx
      · cases hx
      · rename_i hk
        rw [List.mem_singleton] at hx
        match n, hk, hx with
        | 0, hk, _ => exact absurd h hk
        | 1, _, hx | 2, _, hx | 3, _, hx | 4, _, hx | 5, _, hx | 6, _, hx | 7, _, hx => rw [hx]; decide
        | n + 8, hk, _ => exact absurd rfl hk
def cells (l : List Int) : List Value := l.map fun n => Value.int .i64 n
theorem cells_snoc (l : List Int) (n : Int) : cells (l ++ [n]) = cells l ++ [.int .i64 n] := by unfold cells; simp
theorem cells_at (l : List Int) (i : Nat) (n : Int) (h : l[i]? = some n) : (cells l)[i]? = some (.int .i64 n) := by unfold cells; rw [List.getElem?_map, h]; rfl
/-- A row of errors of the call's own. -/
def End (l : List Int) (w : World) : Ending → World → Prop := fun e w' => ∃ x, e = .returned x ∧ w'.ownsRow w.heap.size 42 1 x l.length (cells l) ∧ Below w.heap.size w w'
theorem owns_low {w : World} {base b' : Nat} {e : TypeId} {size : Nat} {v : Value} {n : Nat} {xs : List Value} (h : w.ownsRow base e size v n xs) (hb : b' ≤ base) : w.ownsRow b' e size v n xs := by
  refine ⟨h.1, ?_⟩
  rcases h.2 with h | ⟨g, cap, cur, h1, h2, h3⟩
  · exact .inl h
  · exact .inr ⟨g, cap, cur, h1, by omega, h3⟩
end Y
theorem Tryd.info_Err : (Tryd.prog.info? 42).map (fun i => (i.zero, i.size, i.bytes)) = some (some (.int .i64 0), 1, 8) := by kernel_rfl
theorem Tryd.ask_cells (c : Nat → Int) : Tryd.prog.built 70 [(0, .agg (posC c))] = some (posC c) := by kernel_rfl
/-- Each question, asked. -/
def Asked (c : Nat → Int) (f : FuncId) (b : Bool) (w : World) : Prop := ∀ W, Below w.heap.size w W → Calls Tryd.prog f #[.agg (posC c)] W fun e w' => e = .returned (.bool b) ∧ Below W.heap.size W w'

end Go.Proofs.YtlphjjekamhnlaaDoor
