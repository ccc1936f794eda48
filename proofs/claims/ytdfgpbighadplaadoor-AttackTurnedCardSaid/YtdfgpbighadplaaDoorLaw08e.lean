/- The laws of layer 8: AttackLess. -/
import Derived.Test.YtdfgpbighadplaaDoorLaw08d
namespace Go.Proofs.YtdfgpbighadplaaDoor
open Go.RowKit Go.Sort

theorem bdOk_upd {c : Nat → Int} (hc : BdOk c) (i : Nat) (v : Int) (h0 : 0 ≤ v) (h1 : v ≤ 255) : BdOk (upd c i v) := fun s hs => by
  unfold upd
  split
  · exact ⟨h0, h1⟩
  · exact hc s hs
theorem free_less {x y : BitVec 64} (a b : Nat) (h : ∀ j, j < 64 → bit x j = true → bit y j = true) (hf : free y a b = true) : free x a b = true := by
  rw [free_iff] at hf ⊢
  intro j hj hb
  have := hf j hj hb
  cases hx : bit x j
  · rfl
  · rw [h j hj hx] at this; cases this
theorem hitsK_less (k color : Int) {x y : BitVec 64} (a b : Nat) (h : ∀ j, j < 64 → bit x j = true → bit y j = true) (hf : D.hitsK k color y a b = true) : D.hitsK k color x a b = true := by
  unfold D.hitsK at hf ⊢
  have e : ∀ s : Bool, (s && free y a b) = true → (s && free x a b) = true := fun s hs => by
    rw [Bool.and_eq_true] at hs ⊢
    exact ⟨hs.1, free_less a b h hs.2⟩
  split at hf <;> rename_i h1
  · rw [if_pos h1]; exact hf
  rw [if_neg h1]
  split at hf <;> rename_i h2
  · rw [if_pos h2]; exact hf
  rw [if_neg h2]
  split at hf <;> rename_i h3
  · rw [if_pos h3]; exact hf
  rw [if_neg h3]
  split at hf <;> rename_i h4
  · rw [if_pos h4]; exact e _ hf
  rw [if_neg h4]
  split at hf <;> rename_i h5
  · rw [if_pos h5]; exact e _ hf
  rw [if_neg h5]
  split at hf <;> rename_i h6
  · rw [if_pos h6]; exact e _ hf
  rw [if_neg h6]
  exact hf
theorem less_all (c : Nat → Int) (s : Nat) (v : Int) (hz : c (1 + s) = 0) (j : Nat) (hj : j < 64) (h : bit (S.all c) j = true) : bit (S.all (upd c (1 + s) v)) j = true := by
  rw [bit_all c j hj] at h
  rw [bit_all _ j hj]
  unfold upd
  rw [if_neg (fun e => by rw [e, hz] at h; cases h)]
  exact h
theorem from_less (c : Nat → Int) (s a : Nat) (v : Int) (hc : BdOk c) (h0 : 0 ≤ v) (h1 : v ≤ 255) (ha : a < 64) (hz : c (1 + s) = 0) (hne : a ≠ s) :
    bAndn (K.from (upd c (1 + s) v) a) (K.from c a) = 0#64 := by
  refine zero_of fun b hb => ?_
  have hq := bdOk_upd hc (1 + s) v h0 h1
  rw [bit_andn, bit_from _ a b hq ha hb, bit_from c a b hc ha hb, hits_K _ a b hq ha hb, hits_K c a b hc ha hb, upd_other _ _ _ _ (by omega)]
  cases hh : D.hitsK (P.kind (c (1 + a))) (D.color (c (1 + a))) (S.all (upd c (1 + s) v)) a b
  · rfl
  · rw [hitsK_less _ _ a b (fun j hj => less_all c s v hz j hj) hh]; rfl

set_option maxRecDepth 100000 in
set_option maxHeartbeats 2000000 in
theorem attackLess_walk (c : Nat → Int) (s x a : Int) (w : World) (hc : PosOk c) (y0 : 0 ≤ x) (hT : Tb w) :
    Calls Tryd.prog 7 #[.agg (posC c), .int .i64 s, .int .u8 x, .int .i64 a] w fun e w' => e = .returned (.bool true) ∧ Below w.heap.size w w' := by
  have Hc := Lib.hid (pos_bd hc)
  have HT := Lib.hid (fun W (hb : Below w.heap.size w W) => tb_below hT hb)
  clear hT hc
  have hb0 : Below w.heap.size w (w.alloc (.cells (posC c) 31)) := (Below.refl _ _).alloc (Nat.le_refl _) _
  have hp := PosAt.new w c
  obtain ⟨ns, hns, es⟩ := u64mod s
  obtain ⟨na, hna, ea⟩ := u64mod a
  obtain ⟨x0, x1⟩ := Hc.out ns hns
  cases hl : lawB c
  · go_enter Tryd.func7, Tryd.ntmps7
    go_wp2_with (first
      | ((with_reducible refine wp_load_box rfl _ rfl ?_); refine ⟨_, _, rfl, (by assumption), ?_⟩)
      | (go_at_call 20; refine (lawful_eq c false _ Hc.out hl).mono ?_; rintro e u ⟨rfl, hb⟩; replace hp := hp.below hb; replace hb0 := below_next hb0 hb; clear hb)
      | (go_at_call 13; refine (awake08_any _ (HT.out _ hb0)).mono ?_; rintro e u ⟨rfl, hb⟩; replace hp := hp.below hb; replace hb0 := below_next hb0 hb; clear hb))
    go_ret
    exact ⟨rfl, hb0⟩
  · cases hz : (c (1 + ns) != 0)
    · cases hne : ((na : Int) == (ns : Int))
      · have hv := Lib.hid (from_less c ns na (x % 2 * 8 + 1 + x % 6) Hc.out (by omega) (by omega) hna (by simpa using hz) (by simp at hne; omega))
        have hq := Lib.hid (bdOk_upd Hc.out (1 + ns) (x % 2 * 8 + 1 + x % 6) (by omega) (by omega))
        have m2 : x.tmod 2 = x % 2 := Int.tmod_eq_emod_of_nonneg y0
        have m6 : x.tmod 6 = x % 6 := Int.tmod_eq_emod_of_nonneg y0
        go_enter Tryd.func7, Tryd.ntmps7
        go_wp2_with (first
          | ((with_reducible refine wp_load_box rfl _ rfl ?_); refine ⟨_, _, rfl, (by assumption), ?_⟩)
          | (go_at_call 20; refine (lawful_eq c true _ Hc.out hl).mono ?_; rintro e u ⟨rfl, hb⟩; replace hp := hp.below hb; replace hb0 := below_next hb0 hb; clear hb; have hcl := hp.bd hns)
          | ((with_reducible refine wp_store_box rfl _ _ rfl ?_); refine ⟨_, _, rfl, rfl, ⟨_, heap_alloc_new _ _, rfl⟩, ?_⟩; intro V hV hq1)
          | ((with_reducible refine wp_store_cell rfl _ _ _ rfl ?_); refine ⟨_, _, _, _, _, rfl, rfl, hq1, (by omega), pk_board hns, Tryd.size_u8, ?_⟩; intro V2 hV2 hq2))
        have hlt := Nat.ne_of_lt hp.lt
        have hp2 := hV2.pos (hV.pos (hp.alloc _) hlt) hlt
        have hb2 := hV2.below (hV.below (hb0.alloc hb0.size _) hb0.size) hb0.size
        have HT2 := Lib.hid (HT.out _ hb2)
        clear hV hV2 hq1 hlt hp hcl hb0
        have hB1 := Hc.out
        have hB2 := hq.out
        refine region_below (by kernel_rfl) (by kernel_rfl) ?_
        simp only [Act.put]
        repeat (first
          | go_big_quiet_step (first
            | (go_at_call 14; exact quiet_below (from_any _ _ _ (by assumption) (tb_grow HT2.out))))
          | (go_big_quiet_want; refine quiet_load_box _ rfl ⟨_, _, rfl, (by assumption), ?_⟩; simp only [Act.put, List.setIfInBounds_toArray, List.set_cons_succ, List.set_cons_zero]; go_big_quiet_on))
        refine wpQuiet_nil ?_
        intro w3 hb3
        have hb0 := below_next hb2 hb3
        clear hb3 hp2 hq2 hb2 HT2 hB1 hB2
        have e0 : (U (bAndn (K.from (upd c (1 + ns) (x % 2 * 8 + 1 + x % 6)) ↑na) (K.from c ↑na)) == 0) = true := by rw [hv.out]; rfl
        go_wp2_with (go_at_call 13; refine (awake08_any _ (HT.out _ hb0)).mono ?_; rintro e u ⟨rfl, hb⟩; replace hb0 := below_next hb0 hb; clear hb)
        go_ret
        exact ⟨rfl, hb0⟩
      · go_enter Tryd.func7, Tryd.ntmps7
        go_wp2_with (first
          | ((with_reducible refine wp_load_box rfl _ rfl ?_); refine ⟨_, _, rfl, (by assumption), ?_⟩)
          | (go_at_call 20; refine (lawful_eq c true _ Hc.out hl).mono ?_; rintro e u ⟨rfl, hb⟩; replace hp := hp.below hb; replace hb0 := below_next hb0 hb; clear hb; have hcl := hp.bd hns)
          | (go_at_call 13; refine (awake08_any _ (HT.out _ hb0)).mono ?_; rintro e u ⟨rfl, hb⟩; replace hp := hp.below hb; replace hb0 := below_next hb0 hb; clear hb))
        go_ret
        exact ⟨rfl, hb0⟩
    · go_enter Tryd.func7, Tryd.ntmps7
      go_wp2_with (first
        | ((with_reducible refine wp_load_box rfl _ rfl ?_); refine ⟨_, _, rfl, (by assumption), ?_⟩)
        | (go_at_call 20; refine (lawful_eq c true _ Hc.out hl).mono ?_; rintro e u ⟨rfl, hb⟩; replace hp := hp.below hb; replace hb0 := below_next hb0 hb; clear hb; have hcl := hp.bd hns)
        | (go_at_call 13; refine (awake08_any _ (HT.out _ hb0)).mono ?_; rintro e u ⟨rfl, hb⟩; replace hp := hp.below hb; replace hb0 := below_next hb0 hb; clear hb))
      go_ret
      exact ⟨rfl, hb0⟩

end Go.Proofs.YtdfgpbighadplaaDoor
