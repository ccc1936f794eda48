/- The program's package order: Sort. -/
import Derived.Test.YtdcmjbebkmicaaaOrdM
namespace Go.Proofs.Ytdcmjbebkmicaaa
open Go.RowKit Go.Sort Go.Lib

theorem joined_any (bp cp : Nat) (ps : List (Value × List Mv)) (w : World) (hcp : ps.length ≤ cp) (hps : ps.length ≤ 100) (hc : ∀ j x, ps[j]? = some x → w.cell? ⟨bp, j, none⟩ = some x.1) (hbp : bp < w.heap.size) (hr : ∀ (j : Nat) (x : Value × List Mv), ps[j]? = some x → M.Reads w x.1 x.2) (hn : (M.cat ps ps.length).length ≤ 100000) :
    Calls Try.prog 32 #[.slice (some ⟨bp, 0, none⟩) ps.length cp] w fun e w' => ∃ v, e = .returned v ∧ w'.ownsRow w.heap.size 33 5 v (M.cat ps ps.length).length (M.cells (M.cat ps ps.length)) ∧ Below w.heap.size w w' := by
  have H := Lib.hid (concat_any bp cp ps w hcp hps hc hbp hr hn)
  clear hc hbp hr hn hps hcp
  go_enter Try.func32, Try.ntmps32
  go_wp2_with (go_at_call 57; refine H.out.mono ?_; rintro e w' ⟨v, rfl, hown, hb⟩)
  go_ret
  exact ⟨v, rfl, hown, hb⟩

theorem owns_baseO {w : World} {base b' : Nat} {e : TypeId} {size : Nat} {v : Value} {n : Nat} {xs : List Value} (h : w.ownsRow base e size v n xs) (hb : b' ≤ base) : w.ownsRow b' e size v n xs := by
  refine ⟨h.1, ?_⟩
  rcases h.2 with k | ⟨g, cap, cur, k1, k2, k3⟩
  · exact .inl k
  · exact .inr ⟨g, cap, cur, k1, by omega, k3⟩
/-- One list, joined. -/
theorem joined_one (l : List Mv) (v : Value) (w : World) (bp : Nat) (T : TypeId) (hb : RowAt w bp T #[v]) (hr : M.Reads w v l) (hN : l.length ≤ 100000) :
    Calls Try.prog 32 #[.slice (some ⟨bp, 0, none⟩) 1 1] w fun e w' => ∃ v, e = .returned v ∧ w'.ownsRow w.heap.size 33 5 v l.length (M.cells l) ∧ Below w.heap.size w w' := by
  have e : M.cat [(v, l)] 1 = l := by simp [M.cat]
  have := joined_any bp 1 [(v, l)] w (Nat.le_refl _) (by simp) (fun j x hx => by
    have : j = 0 := by have := (List.getElem?_eq_some_iff.1 hx).1; simpa using this
    subst this
    simp at hx
    subst hx
    rw [hb.cell]; rfl) hb.lt (fun j x hx => by
    have : j = 0 := by have := (List.getElem?_eq_some_iff.1 hx).1; simpa using this
    subst this
    simp at hx
    subst hx
    exact hr) (by show (M.cat [(v, l)] 1).length ≤ _; rw [e]; exact hN)
  rw [show ([(v, l)] : List (Value × List Mv)).length = 1 from rfl, e] at this
  exact this

set_option maxRecDepth 100000 in
set_option maxHeartbeats 1000000 in
theorem osort_any (c : Nat → Int) (l : List Mv) (v : Value) (w : World) (hc : PosOk c) (hl : ∀ m ∈ l, O.MvOk m) (hN : l.length ≤ 100000) (hr : M.Reads w v l) :
    Calls Try.prog 13 #[.agg (posC c), v] w fun e w' => ∃ v' l', e = .returned v' ∧ O.Sorted c l l' ∧ w'.ownsRow (w.heap.size + 1) 33 5 v' l.length (M.cells l') ∧ Below w.heap.size w w' := by
  have hp := PosAt.new w c
  have hb0 : Below w.heap.size w (w.alloc (.cells (posC c) 31)) := (Below.refl _ _).alloc (Nat.le_refl _) _
  obtain ⟨ao, cap, hv, _⟩ := id hr
  subst hv
  have hsz : (w.alloc (.cells (posC c) 31)).heap.size = w.heap.size + 1 := by show (w.heap.push _).size = _; simp
  have hJ := Lib.hid (joined_one l (.slice ao l.length cap) ((w.alloc (.cells (posC c) 31)).alloc (.cells #[.slice ao l.length cap] 40)) (w.heap.size + 1) 40 (by rw [← hsz]; exact RowAt.new _ _ _) ((hr.below hb0).below (by rw [hsz]; exact (Below.refl _ _).alloc (by rw [hsz]; exact Nat.le_refl _) _)) hN)
  have hp1 := hp.alloc (.cells #[.slice ao l.length cap] 40)
  have hb1 : Below w.heap.size w ((w.alloc (.cells (posC c) 31)).alloc (.cells #[.slice ao l.length cap] 40)) := hb0.alloc (by rw [hsz]; omega) _
  have hsz1 : ((w.alloc (.cells (posC c) 31)).alloc (.cells #[.slice ao l.length cap] 40)).heap.size = w.heap.size + 2 := by show ((w.heap.push _).push _).size = _; simp
  have HP := Lib.hid hp1
  have HB := Lib.hid (And.intro hb1 hsz1)
  have HCL := Lib.hid (And.intro hc hl)
  clear hr hc hl hp hp1 hb0 hb1 hsz hsz1
  go_enter Try.func13, Try.ntmps13
  go_wp2_with (go_at_call 32; refine hJ.out.mono ?_; rintro e w1 ⟨v1, rfl, hown, hb⟩)
  have hp2 := HP.out.below hb
  have hb2 := below_next HB.out.1 hb
  rw [HB.out.2] at hown
  have HK := Lib.hid (sortStable_any c l w.heap.size (w.heap.size + 1) 33 v1 w1 HCL.out.1 HCL.out.2 hN hp2 (by omega) (owns_baseO hown (by omega)))
  clear hown hb hp2
  have HB2 := Lib.hid hb2
  clear hb2
  go_wp2_with (go_at_call 33; refine HK.out.mono ?_; rintro e w2 ⟨rfl, ⟨l', hs, hown⟩, hb⟩)
  go_ret
  exact ⟨v1, l', rfl, hs, hown, HB2.out.trans (hb.mono (by omega))⟩

end Go.Proofs.Ytdcmjbebkmicaaa
