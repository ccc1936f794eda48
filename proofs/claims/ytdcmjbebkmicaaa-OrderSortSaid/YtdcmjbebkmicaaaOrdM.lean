/- slices.SortStableFunc at moves, by the order's closure. -/
import Derived.Test.YtdcmjbebkmicaaaOrdL
namespace Go.Proofs.Ytdcmjbebkmicaaa
open Go.RowKit Go.Sort Go.Lib Go.Shelf

theorem insertion_nil (f : Nat) (cb : Array Value) (w : World) : Calls Try.prog 72 #[.slice none 0 0, .int .i64 0, .int .i64 0, .func (.func f) #[] cb] w fun e w' => e = .returned (.tuple #[]) ∧ w = w' := by
  go_enter Try.func72, Try.ntmps72
  go_wp2
  refine wp_loop_rounds 1 ?_
  rw [rounds_succ]
  go_wp2
  go_end0
  exact ⟨rfl, rfl⟩
theorem stable_nil (f : Nat) (cb : Array Value) (w : World) : Calls Try.prog 58 #[.slice none 0 0, .int .i64 0, .func (.func f) #[] cb] w fun e w' => e = .returned (.tuple #[]) ∧ w = w' := by
  go_enter Try.func58, Try.ntmps58
  go_wp2
  refine wp_loop_rounds 1 ?_
  rw [rounds_succ]
  go_wp2_with (go_at_call 72; refine (insertion_nil _ _ _).mono ?_; rintro e w' ⟨rfl, rfl⟩)
  refine wp_loop_rounds 1 ?_
  rw [rounds_succ]
  go_wp2
  go_end0
  exact ⟨rfl, rfl⟩
theorem cmp_lays (c : Nat → Int) (p g n : Nat) (w : World) (hc : PosOk c) (hp : PosAt w p c) (hne : p ≠ g) : CmpLays Try.prog 34 #[.pointer (some ⟨p, 0, none⟩)] M.cell 5 (O.cf c) g 0 n w := by
  intro m os dk _ x y
  exact sort1_any c p x y _ hc (M.pos_sorted hp hne m os)
theorem ins_at (c : Nat → Int) (l : List Mv) (p g cap : Nat) (w0 : World) (d0 : Array Mv) (hc : PosOk c) (hl : ∀ m ∈ l, O.MvOk m) (hp : PosAt w0 p c) (hne : p ≠ g) (hH : HoldsK M.cell 5 w0 g 0 d0) (hd : d0.size = l.length) (hg : g < w0.heap.size) (hN : l.length < 1000000000)
    (gg : Nat → Nat) (a b m0 : Nat) (os : Array Obj) (hab : a ≤ b) (hb : b ≤ l.length) (h0 : ∀ x y, a ≤ x → x < y → y < b → gg x < gg y) :
    Calls Try.prog 72 #[.slice (some ⟨g, 0, none⟩) l.length cap, .int .i64 (a : Int), .int .i64 (b : Int), .func (.func 34) #[] #[.pointer (some ⟨p, 0, none⟩)]] (sortWorldK M.cell 5 w0 g 0 m0 (Stab.row (O.place l) l.length gg) os)
      fun e w' => e = .returned (.tuple #[]) ∧ ∃ g', Stab.Prm a b gg g' ∧ Stab.Srt (O.R c (O.place l)) g' a b ∧ ∃ m' os', w' = sortWorldK M.cell 5 w0 g 0 m' (Stab.row (O.place l) l.length g') os' := by
  have hs := Stab.row_size (O.place l) l.length gg
  obtain ⟨g', e1, e2, e3⟩ := Stab.insertion_ok (n := l.length) (O.tells hc _ (O.place_ok hl)) a b hab hb gg h0
  have hk := AnyQ.insertionSortCmpFunc stLays 5 Try.isAgg_mv Try.sizeOf_mv M.cell M.cell_len M.cell_one (O.cf c) 34 #[.pointer (some ⟨p, 0, none⟩)] g 0 cap a b (Stab.row (O.place l) l.length gg) (sortWorldK M.cell 5 w0 g 0 m0 (Stab.row (O.place l) l.length gg) os)
    (enters_of Try.func34 (by kernel_rfl) rfl) (cmp_lays c p g _ _ hc (M.pos_sorted hp hne m0 os) hne) (holdsK_sortWorldK_c M.cell 5 w0 g 0 d0 _ m0 os hH hg (by rw [hs, hd])) (Nat.lt_of_lt_of_le hg (size_sortWorldK_c M.cell 5 w0 g 0 m0 _ os)) hab (by rw [hs]; exact hb) (by rw [hs]; omega)
  rw [hs] at hk
  refine Calls.mono hk ?_
  rintro e w' ⟨rfl, n, os', rfl⟩
  refine ⟨rfl, g', e2, e3, m0 + n, os ++ os', ?_⟩
  rw [e1]
  exact sortWorldK_on_m M.cell 5 w0 g 0 m0 n _ _ os os' hg (by rw [Stab.row_size, hs])

set_option maxRecDepth 100000 in
set_option maxHeartbeats 1000000 in
theorem sortStable_any (c : Nat → Int) (l : List Mv) (p base : Nat) (T : TypeId) (v : Value) (w : World) (hc : PosOk c) (hl : ∀ m ∈ l, O.MvOk m) (hN : l.length ≤ 100000) (hp : PosAt w p c) (hpb : p < base) (hown : w.ownsRow base T 5 v l.length (M.cells l)) :
    Calls Try.prog 33 #[v, .func (.func 34) #[] #[.pointer (some ⟨p, 0, none⟩)]] w fun e w' => e = .returned (.tuple #[]) ∧ (∃ l', O.Sorted c l l' ∧ w'.ownsRow base T 5 v l.length (M.cells l')) ∧ Below base w w' := by
  rcases hown.2 with ⟨rfl, hz⟩ | ⟨g, cap, cur, rfl, hb, hg, hnc, hcm, hcs, htake⟩
  · have hln : l = [] := List.eq_nil_of_length_eq_zero hz
    subst hln
    go_enter Try.func33, Try.ntmps33
    go_wp2_with (go_at_call 58; refine (stable_nil _ _ _).mono ?_; rintro e w' ⟨rfl, rfl⟩)
    go_end0
    exact ⟨rfl, ⟨[], ⟨id, Stab.Prm.refl _ _ _, (fun x y _ _ h => absurd h (Nat.not_lt_zero y)), rfl⟩, hown⟩, Below.refl _ _⟩
  · have hgs := (Array.getElem?_eq_some_iff.1 hg).1
    have hs := Stab.row_size (O.place l) l.length id
    have hH : HoldsK M.cell 5 w g 0 (Stab.row (O.place l) l.length id) := M.holds_of hg (by rw [hs, O.row_list]; exact htake)
    have hne : p ≠ g := by omega
    have hSt := stable_w 5 stL M.cell M.cell_len M.cell_one (O.cf c) (O.place l) (O.R c (O.place l)) (O.tells hc _ (O.place_ok hl)) l.length g 0 cap 34 #[.pointer (some ⟨p, 0, none⟩)] w (Stab.row (O.place l) l.length id)
      (enters_of Try.func34 (by kernel_rfl) rfl) (cmp_lays c p g _ _ hc hp hne) hH hs hgs (by omega) rfl
      (fun gg a b m0 os hab hb h0 => ins_at c l p g cap w _ hc hl hp hne hH hs hgs (by omega) gg a b m0 os hab hb h0) (enters_of Try.func72 (by kernel_rfl) rfl) Try.func58
    have HS := Lib.hid hSt
    have HF := Lib.hid (fun (gg : Nat → Nat) m os => (show _ ∧ _ from ⟨M.owns_sorted (d := Stab.row (O.place l) l.length gg) hg hb hnc hcm hcs (Stab.row_size _ _ _) m os, M.below_sorted (d := Stab.row (O.place l) l.length gg) hb hgs m os⟩))
    clear hSt hH hown hg htake hp
    go_enter Try.func33, Try.ntmps33
    go_wp2_with (go_at_call 58; refine HS.out.mono ?_; rintro e w' ⟨rfl, gg, hpr, hsr, m, os, rfl⟩)
    go_end0
    exact ⟨rfl, ⟨_, ⟨gg, hpr, hsr, rfl⟩, (HF.out gg m os).1⟩, (HF.out gg m os).2⟩

end Go.Proofs.Ytdcmjbebkmicaaa
