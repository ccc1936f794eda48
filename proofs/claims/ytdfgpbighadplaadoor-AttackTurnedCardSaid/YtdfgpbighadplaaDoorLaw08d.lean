/- The laws of layer 8: AttackBoth. -/
import Derived.Test.YtdfgpbighadplaaDoorLaw08c
namespace Go.Proofs.YtdfgpbighadplaaDoor
open Go.RowKit Go.Sort

/-- A square out of any number. -/
def md (s : Int) : Nat := (s % 64).toNat
theorem md_lt (s : Int) : md s < 64 := by unfold md; omega
theorem md_int (s : Int) : ((md s : Nat) : Int) = s % 64 := by unfold md; omega

theorem lawful_k (c : Nat → Int) (hc : BdOk c) (h : lawB c = true) (j : Nat) (hj : j < 64) : (P.kind (c (1 + j)) != 0) = (c (1 + j) != 0) := by
  have := (lawB_iff c).1 h j hj
  obtain ⟨x0, x1⟩ := hc j hj
  rw [isB_kind _ x0 x1]
  unfold okL at this
  cases hb : P.isB (c (1 + j))
  · rw [hb] at this; simp at this; rw [this]; rfl
  · have : c (1 + j) ≠ 0 := by intro e; rw [e] at hb; cases hb
    simpa using this

theorem hits_self (c : Nat → Int) (a : Nat) : D.hits c a a = false := by
  have u : D.up a a = 0 := by unfold D.up; omega
  have s : D.aside a a = 0 := by unfold D.aside; rw [show (a : Int) % 8 - (a : Int) % 8 = 0 by omega]; rfl
  have e1 : D.straight a a = false := by unfold D.straight; rw [u, s]; rfl
  have e2 : D.across a a = false := by unfold D.across; rw [u, s]; rfl
  have e3 : D.beside (a : Int) a = false := by unfold D.beside; simp
  unfold D.hits
  rw [u, s, e1, e2, e3]
  split
  · split <;> rfl
  split
  · rfl
  split
  · rfl
  split
  · rfl
  split
  · rfl
  split <;> rfl

theorem hits_none (c : Nat → Int) (a b : Nat) (h : P.kind (c (1 + a)) = 0) : D.hits c a b = false := by
  unfold D.hits
  rw [h]
  rfl

theorem bit_from (c : Nat → Int) (a b : Nat) (hc : BdOk c) (ha : a < 64) (hb : b < 64) : bit (K.from c a) b = D.hits c a b := by
  rw [from_eq c a hc]
  unfold D.from'
  rw [if_pos (by unfold K.there; simp; omega), Int.toNat_natCast, bit_fromTo c a b hb 64 (by omega)]
  simp [hb]
theorem bit_by (c : Nat → Int) (a b : Nat) (color : Int) (hc : BdOk c) (ha : a < 64) (hb : b < 64) (h0 : 0 ≤ color) (h1 : color ≤ 1) :
    bit (K.by c b color) a = (P.kind (c (1 + a)) != 0 && (D.color (c (1 + a)) == color && D.hits c a b)) := by
  rw [by_eq c b color hc h0, if_pos h1]
  unfold D.by'
  rw [if_pos (by unfold K.there; simp; omega), Int.toNat_natCast, bit_byTo c b color a ha 64 (by omega)]
  simp [ha]

/-- A test of one square. -/
theorem test_bit (x : BitVec 64) (b : Nat) (hb : b < 64) : (U (bAnd x (B.one (b : Int))) != 0) = bit x b := by
  rw [U_ne, Bool.eq_iff_iff, decide_eq_true_eq]
  constructor
  · intro h
    obtain ⟨j, hj, hbj⟩ := some_of h
    rw [bit_and, bit_one b j hb] at hbj
    simp at hbj
    rw [← hbj.2]; exact hbj.1
  · intro h e
    have := congrArg (fun y => bit y b) e
    simp only [bit_and, bit_zero, bit_one b b hb, h] at this
    simp at this

theorem u64mod (s : Int) : ∃ n : Nat, n < 64 ∧ (IntKind.u64.wrap s).tmod 64 = (n : Int) := by
  refine ⟨md s, md_lt s, ?_⟩
  rw [IntKind.wrap_u64, Int.tmod_eq_emod_of_nonneg (by omega), md_int]
  omega

set_option maxRecDepth 100000 in
set_option maxHeartbeats 2000000 in
theorem attackBoth_walk (c : Nat → Int) (a b : Int) (w : World) (hc : PosOk c) (hT : Tb w) :
    Calls Tryd.prog 6 #[.agg (posC c), .int .i64 a, .int .i64 b] w fun e w' => e = .returned (.bool true) ∧ Below w.heap.size w w' := by
  have Hc := Lib.hid (pos_bd hc)
  have HT := Lib.hid (fun W (hb : Below w.heap.size w W) => tb_below hT hb)
  clear hT hc
  have hb0 : Below w.heap.size w (w.alloc (.cells (posC c) 31)) := (Below.refl _ _).alloc (Nat.le_refl _) _
  have hp := PosAt.new w c
  cases hl : lawB c
  · go_enter Tryd.func6, Tryd.ntmps6
    go_wp2_with (first
      | ((with_reducible refine wp_load_box rfl _ rfl ?_); refine ⟨_, _, rfl, (by assumption), ?_⟩)
      | (go_at_call 20; refine (lawful_eq c false _ Hc.out hl).mono ?_; rintro e u ⟨rfl, hb⟩; replace hp := hp.below hb; replace hb0 := below_next hb0 hb; clear hb)
      | (go_at_call 13; refine (awake08_any _ (HT.out _ hb0)).mono ?_; rintro e u ⟨rfl, hb⟩; replace hp := hp.below hb; replace hb0 := below_next hb0 hb; clear hb))
    go_ret
    exact ⟨rfl, hb0⟩
  · obtain ⟨na, hna, ea⟩ := u64mod a
    obtain ⟨nb, hnb, eb⟩ := u64mod b
    obtain ⟨x0, x1⟩ := Hc.out na hna
    have hone : IntKind.u64.wrap (2 ^ na) = U (B.one na) := B.one_val na (by omega) (by omega)
    have hone2 : IntKind.u64.wrap (2 ^ nb) = U (B.one nb) := B.one_val nb (by omega) (by omega)
    have hit : (U (bAnd (K.from c na) (B.one nb)) != 0) = D.hits c na nb := by rw [test_bit _ _ hnb, bit_from c na nb Hc.out hna hnb]
    have hin : ∀ k : Nat, k < 2 → (U (bAnd (K.by c nb k) (B.one na)) != 0) = (c (1 + na) != 0 && (c (1 + na) / 8 == (k : Int) && D.hits c na nb)) := fun k hk => by
      rw [test_bit _ _ hna, bit_by c na nb k Hc.out hna hnb (by omega) (by omega), lawful_k c Hc.out hl na hna]; rfl
    have Hin := Lib.hid hin
    have hself : D.hits c na nb = true → ((na : Int) != (nb : Int)) = true := fun h => by
      have : na ≠ nb := fun e => by rw [← e, hits_self c na] at h; cases h
      simp; omega
    have hnon : D.hits c na nb = true → (c (1 + na) != 0) = true := fun h => by
      rw [← lawful_k c Hc.out hl na hna, bne_iff_ne]
      intro e
      rw [hits_none c na nb e] at h; cases h
    have hql : (c (1 + na)).tdiv 8 = c (1 + na) / 8 := Int.tdiv_eq_ediv_of_nonneg x0
    clear hin
    have fv := Lib.hid (fun W (hb : Below w.heap.size w W) => from_any c na W Hc.out (HT.out W hb))
    have bv := Lib.hid (fun (k : Nat) W (hb : Below w.heap.size w W) => by_any c nb k W Hc.out (HT.out W hb))
    obtain ⟨hh, hne, hx, eh, en, ex, hor⟩ : ∃ hh hne hx : Bool, D.hits c na nb = hh ∧ ((na : Int) != (nb : Int)) = hne ∧ (c (1 + na) != 0) = hx ∧ (hh = false ∨ (hne = true ∧ hx = true)) := by
      refine ⟨_, _, _, rfl, rfl, rfl, ?_⟩
      cases e : D.hits c na nb
      · exact .inl rfl
      · exact .inr ⟨hself e, hnon e⟩
    clear hself hnon
    cases hh <;> cases hne <;> cases hx <;> simp at hor
    all_goals
      rw [eh] at hit
      have Hh := Lib.hid eh
      clear eh
      go_enter Tryd.func6, Tryd.ntmps6
      go_wp2_with (first
        | ((with_reducible refine wp_load_box rfl _ rfl ?_); refine ⟨_, _, rfl, (by assumption), ?_⟩)
        | (go_at_call 20; refine (lawful_eq c true _ Hc.out hl).mono ?_; rintro e u ⟨rfl, hb⟩; replace hp := hp.below hb; replace hb0 := below_next hb0 hb; clear hb)
        | (go_at_call 14; refine (fv.out _ hb0).mono ?_; rintro e u ⟨rfl, hb⟩; replace hp := hp.below hb; replace hb0 := below_next hb0 hb; clear hb; have hcl := hp.bd hna))
      have HW := Lib.hid hp
      have Hb0 := Lib.hid hb0
      clear hp hb0 hcl
      go_loopw [9] (fun i wr => ∃ k : Nat, k ≤ 2 ∧ i = .int .u8 (k : Int) ∧ PosAt wr w.heap.size c ∧ Below w.heap.size w wr) (fun i _ => 2 - (intOf i).toNat)
      case atStart => exact ⟨0, by omega, rfl, HW.out, Hb0.out⟩
      case round =>
        obtain ⟨k, hk, rfl, hp, hbr⟩ := hrel
        by_cases hlt : k < 2
        · have hi := Hin.out k hlt
          cases hc8 : (c (1 + na) / 8 == (k : Int))
          all_goals
            rw [hc8, ex, Hh.out] at hi
            first | change _ = true at hi | change _ = false at hi
            go_wp2_with (first
              | ((with_reducible refine wp_load_box rfl _ rfl ?_); refine ⟨_, _, rfl, (by assumption), ?_⟩)
              | (go_at_call 11; refine (bv.out k _ hbr).mono ?_; rintro e u ⟨rfl, hb⟩; replace hp := hp.below hb; replace hbr := below_next hbr hb; clear hb))
            exact ⟨⟨k + 1, by omega, by go_num, hp, hbr⟩, by simp [intOf]; omega⟩
        · obtain rfl : k = 2 := by omega
          go_wp2_with (first
            | (go_at_call 13; refine (awake08_any _ (HT.out _ hbr)).mono ?_; rintro e u ⟨rfl, hb⟩; replace hbr := below_next hbr hb; clear hb))
          go_ret
          exact ⟨rfl, hbr⟩

end Go.Proofs.YtdfgpbighadplaaDoor
