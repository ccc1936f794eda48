/- What hangs on the board alone. -/
import Derived.Test.YtlphjjekamhnlaaDoorBaseC
namespace Go.Proofs.YtlphjjekamhnlaaDoor
open Go.RowKit Go.Sort

/-- The same board. -/
def SameBd (c c' : Nat → Int) : Prop := ∀ s, s < 64 → c (1 + s) = c' (1 + s)
theorem SameBd.upTo {c c' : Nat → Int} (h : SameBd c c') (g : Int → Bool) : ∀ n, n ≤ 64 → S.upTo c g n = S.upTo c' g n
  | 0, _ => rfl
  | n + 1, hn => by
    have ih := h.upTo g n (by omega)
    unfold S.upTo
    rw [h n (by omega), ih]
theorem SameBd.all {c c' : Nat → Int} (h : SameBd c c') : S.all c = S.all c' := h.upTo (fun _ => true) 64 (Nat.le_refl _)
theorem SameBd.of {c c' : Nat → Int} (h : SameBd c c') (color kind : Int) : S.of c color kind = S.of c' color kind := h.upTo _ 64 (Nat.le_refl _)
theorem SameBd.find {c c' : Nat → Int} (h : SameBd c c') (color kind : Int) : S.find c color kind = S.find c' color kind := by unfold S.find; rw [h.of]
theorem SameBd.by {c c' : Nat → Int} (h : SameBd c c') (s color : Int) : K.by c s color = K.by c' s color := by
  unfold K.by K.acc
  simp only [h.all, h.of]
theorem SameBd.on {c c' : Nat → Int} (h : SameBd c c') (s color : Int) : K.on c s color = K.on c' s color := by unfold K.on; rw [h.by]
theorem SameBd.upd {c c' : Nat → Int} (h : SameBd c c') (i : Nat) (v : Int) : SameBd (upd c i v) (Go.Proofs.YtlphjjekamhnlaaDoor.upd c' i v) := fun s hs => by
  unfold Go.Proofs.YtlphjjekamhnlaaDoor.upd
  split
  · rfl
  · exact h s hs
theorem same_upd (c : Nat → Int) (i : Nat) (v : Int) (hi : 65 ≤ i) : SameBd (upd c i v) c := fun s hs => upd_other _ _ _ _ (by omega)
theorem SameBd.trans {a b c : Nat → Int} (h : SameBd a b) (k : SameBd b c) : SameBd a c := fun s hs => (h s hs).trans (k s hs)

end Go.Proofs.YtlphjjekamhnlaaDoor
