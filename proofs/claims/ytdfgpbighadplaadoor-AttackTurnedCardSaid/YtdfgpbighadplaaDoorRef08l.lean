/- The document's answer of layer 8: By, From, every way. -/
import Derived.Test.YtdfgpbighadplaaDoorRef08k
namespace Go.Proofs.YtdfgpbighadplaaDoor
open Go.RowKit Go.Sort

theorem there_nat (s : Int) (h : K.there s = true) : ∃ n : Nat, s = (n : Int) ∧ n < 64 ∧ s.toNat = n := by
  unfold K.there at h
  simp at h
  exact ⟨s.toNat, by omega, by omega, rfl⟩
theorem there_out (s : Int) (h : K.there s = false) : s < 0 ∨ 64 ≤ s := by
  unfold K.there at h
  simp at h
  omega

theorem d8from_any (c : Nat → Int) (s : Int) (w : World) (hc : BdOk c) :
    Calls Tryd.prog 15 #[.agg (posC c), .int .i64 s] w fun e w' => e = .returned (.int .u64 (U (D.from' c s))) ∧ Below w.heap.size w w' := by
  cases h : K.there s
  · rw [show D.from' c s = 0#64 by unfold D.from'; rw [h]; rfl]
    exact d8from_out c s w (there_out s h)
  · obtain ⟨n, rfl, hn, hm⟩ := there_nat s h
    rw [show D.from' c n = D.fromTo c n 64 by unfold D.from'; rw [h, hm]; rfl]
    exact d8from_in c n w hc hn

theorem d8by_any (c : Nat → Int) (s color : Int) (w : World) (hc : BdOk c) :
    Calls Tryd.prog 10 #[.agg (posC c), .int .i64 s, .int .u8 color] w fun e w' => e = .returned (.int .u64 (U (D.by' c s color))) ∧ Below w.heap.size w w' := by
  cases h : K.there s
  · rw [show D.by' c s color = 0#64 by unfold D.by'; rw [h]; rfl]
    exact d8by_out c s color w (there_out s h)
  · obtain ⟨n, rfl, hn, hm⟩ := there_nat s h
    rw [show D.by' c n color = D.byTo c n color 64 by unfold D.by'; rw [h, hm]; rfl]
    exact d8by_in c n color w hc hn

end Go.Proofs.YtdfgpbighadplaaDoor
