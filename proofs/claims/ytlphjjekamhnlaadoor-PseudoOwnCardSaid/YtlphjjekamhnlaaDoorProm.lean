/- The program's rules.Promotes. -/
import Derived.Test.YtlphjjekamhnlaaDoorList
namespace Go.Proofs.YtlphjjekamhnlaaDoor
open Go.RowKit Go.Sort
attribute [local go_sem] Oper.semAt_some

namespace V
def last (v : Nat) : Nat := if v = 4 then 6 else if v < 8 then 5 else 0
/-- What a pawn may become. -/
def promos (v : Nat) : List Nat := List.range' 2 (last v - 1)
def u8s (l : List Nat) : List Value := l.map fun (n : Nat) => Value.int .u8 (n : Int)
theorem of_last (v : Nat) : ∃ s a b c d e, V.of v = #[.string s, .bool a, .bool b, .bool c, .bool d, .bool e, .int .u8 (last v : Nat)] := by
  by_cases h : v < 9
  · match v, h with
    | 0, _ | 1, _ | 2, _ | 3, _ | 4, _ | 5, _ | 6, _ | 7, _ | 8, _ => exact ⟨_, _, _, _, _, _, rfl⟩
  · have hv : V.of v = #[.string ⟨#[]⟩, .bool false, .bool false, .bool false, .bool false, .bool false, .int .u8 0] := by
      unfold V.of; split <;> first | omega | rfl
    have hl : last v = 0 := by unfold last; rw [if_neg (by omega), if_neg (by omega)]
    rw [hv, hl]
    exact ⟨_, _, _, _, _, _, rfl⟩
theorem last_bd (v : Nat) : last v ≤ 6 := by unfold last; split; omega; split <;> omega
end V
theorem Tryd.info_u8L : (Tryd.prog.info? 5).map (fun i => (i.zero, i.size, i.bytes)) = some (some (.int .u8 0), 1, 1) := by kernel_rfl
set_option maxRecDepth 100000 in
set_option maxHeartbeats 2000000 in
theorem promotes_any (v : Nat) (w : World) :
    Calls Tryd.prog 92 #[.int .u8 (v : Int)] w fun e w' => ∃ x, e = .returned x ∧ w'.ownsRow w.heap.size 5 1 x (V.promos v).length (V.u8s (V.promos v)) ∧ Below w.heap.size w w' := by
  obtain ⟨s, a, b, c, d, e, hof⟩ := V.of_last v
  have HO : Hid (∀ w, Calls Tryd.prog 109 #[.int .u8 (v : Int)] w fun e' w' => e' = .returned (.agg #[.string s, .bool a, .bool b, .bool c, .bool d, .bool e, .int .u8 (V.last v : Nat)]) ∧ Below w.heap.size w w') := Lib.hid (fun w => by rw [← hof]; exact of_k v w)
  have hl6 := V.last_bd v
  obtain ⟨l, hl⟩ : ∃ l, V.last v = l := ⟨_, rfl⟩
  have HP : Hid (V.promos v = List.range' 2 (l - 1)) := Lib.hid (by unfold V.promos; rw [hl])
  rw [hl] at HO hl6
  clear hof hl
  obtain ⟨i0, hi, hz0, hz1, hz2⟩ := info_parts Tryd.info_u8L
  have hfd : ∀ w, (Instr.field 112 (.agg #[.string s, .bool a, .bool b, .bool c, .bool d, .bool e, .int .u8 (l : Int)]) 5).run Tryd.prog w = .ok (.int .u8 (l : Int)) w := fun _ => by kernel_rfl
  go_enter Tryd.func92, Tryd.ntmps92
  go_wp2
  go_loopw [3, 4] (fun x i wr => ∃ n k : Nat, n ≤ l - 1 ∧ i = .int .u8 (k : Int) ∧ k = n + 2 ∧ wr.ownsRow w.heap.size 5 1 x (List.range' 2 n).length (V.u8s (List.range' 2 n)) ∧ Below w.heap.size w wr) (fun _ i _ => 8 - (intOf i).toNat)
  case atStart => exact ⟨0, 2, by omega, rfl, rfl, World.ownsRow_nil _ _ _ _, Below.refl _ _⟩
  case round =>
    obtain ⟨n, k, hn, rfl, hk, hown, hbr⟩ := hrel
    by_cases hlt : k ≤ l
    · have d1 : decide (k ≤ l) = true := by simp; omega
      have Hst : Hid (V.u8s (List.range' 2 n) ++ [.int .u8 (k : Int)] = V.u8s (List.range' 2 (n + 1))) := Lib.hid (by
        unfold V.u8s; rw [List.range'_concat, hk]; simp [Nat.add_comm])
      have hw8 : IntKind.u8.wrap ((k : Int) + 1) = (k : Int) + 1 := by rw [IntKind.wrap_u8]; omega
      have Hk := Lib.hid (And.intro hk hlt)
      have hln : (List.range' 2 n).length ≤ 10 := by simp; omega
      have Hn := Lib.hid hn
      clear hlt hk hn
      go_wp2_with (first
        | (go_at_call 109; refine (HO.out _).mono ?_; rintro e w1 ⟨rfl, hb1⟩; replace hown := owns_below hown hb1; replace hbr := below_next hbr hb1; clear hb1; have hgs := hbr.size)
        | (at_builtin; refine wpList_append_own _ rfl _ _ 60 rfl w.heap.size 5 i0 (.int .u8 0) 1 1 Tryd.underlying60 hi hz0 hz1 hz2 rfl (by decide) _ _ _ rfl (hown.alloc _) ⟨_, 0, none⟩ 1 1 [.int .u8 (k : Int)] rfl rfl (cell_one_new _ _ _) (by simp [Value.oneCell']) (by unfold maxLen; omega) (by omega) (by simp; omega) ?_; intro v' w2 hown' hgrow _))
      refine ⟨⟨n + 1, k + 1, by have := Hk.out; omega, by go_num, by have := Hk.out; omega, ?_, ?_⟩, by simp [intOf]; have := Hk.out; omega⟩
      · rw [← Hst.out, List.length_range']
        simpa using hown'
      · exact (hbr.alloc hbr.size _).grown hgrow (by simp; omega) (fun q hq => by have := (hown.lt q hq).1; omega)
    · have d1 : decide (k ≤ l) = false := by simp; omega
      have hnl : n = l - 1 := by omega
      have HP2 := Lib.hid (hnl ▸ HP.out)
      clear hnl hlt hk hn
      go_wp2_with (go_at_call 109; refine (HO.out _).mono ?_; rintro e w1 ⟨rfl, hb1⟩; replace hown := owns_below hown hb1; replace hbr := below_next hbr hb1; clear hb1)
      go_ret
      exact ⟨_, rfl, by rw [HP2.out]; exact hown, hbr⟩
end Go.Proofs.YtlphjjekamhnlaaDoor
