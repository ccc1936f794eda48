/- The statement 'StackRefused', a tied card: for every position and the like the law returns true. No condition; the one listed variable is tied to the program's text. -/
import Derived.Test.YtbakeajgolhkgaaGreatDoorRows
import Derived.Test.YtbakeajgolhkgaaGreatDoorCards
import Derived.Test.YtbakeajgolhkgaaGreatDoorTie
import Derived.WalkKit
import Derived.ProofKit
import Derived.LaidMore
import Derived.OpenShut
import Derived.ShutString
import Derived.Stop.Joined
import Derived.SevenTiedAt
import Derived.Test.YtbakeajgolhkgaaGreatDoorZa
import Derived.Test.YtbakeajgolhkgaaGreatDoorZc
import Derived.Carry
import Derived.Test.YtbakeajgolhkgaaGreatDoorStV
namespace Go.Proofs.YtbakeajgolhkgaaGreatDoor.stackRefused
open Go.ChangeShapes Go.WideShapes Go.ChangeAt Go.RowKit
open Go.WideMaps Go.WideElems
open Go.ChangeMaps (setBlock shut_map_nil open_string shut_string keptBut_setBlock frozen?_setBlock heap_setBlock_same)

theorem plain_params (l : List TypeId) (h : l.all (fun t => !Tryz.prog.wantsStandIn t) = true) (j : Nat) (t : TypeId) (ht : l.toArray[j]? = some t) : Tryz.prog.wantsStandIn t = false := by
  rw [List.getElem?_toArray] at ht
  have := List.all_eq_true.1 h t (List.mem_of_getElem? ht)
  simpa using this
theorem own : ownKnob Tryz.prog.godebug = none := by kernel_rfl

set_option maxRecDepth 100000 in
theorem lifted (os : Os) (started : os.Started) (H : Type) (enc : TypeId × Value → H) :
    ReturnsInHanded {} Tryz.checked os 6 .any (fun w args => (Rows.stackRefusedSpec.pre enc Tryz.prog Tryz.f6 [] false w args ∧ laidMetH Tryz.prog Rows.stackRefusedRow.laid w) ∧ sizedMet enc Tryz.prog Tryz.f6 (OpenSpec.ofChange Rows.stackRefusedSpec) false w args)
      (Rows.stackRefusedSpec.post enc Tryz.prog Tryz.f6 false true false false) := by
  refine returnsInHanded_of_change_and (C := Tryz.checked) (X := fun w _ => laidMetH Tryz.prog Rows.stackRefusedRow.laid w) (fun _ _ _ hh h => h.of_heap hh) own started (by kernel_rfl) Tryz.func6
    (ChangeSpec.witness_shaped (enc := enc) (C := Tryz.checked) (os := os) (X := fun w _ => laidMetH Tryz.prog Rows.stackRefusedRow.laid w) false (World.doorLaid Tryz.prog 400 os) #[.agg (posC fun _ => 0), .slice none 0 0, .agg (movC 0 0 0 0 false)] 8 rfl (World.shaped_of_RefB (by kernel_rfl) (by kernel_rfl)) (by kernel_rfl) (by kernel_rfl) (by kernel_rfl) (door_met os _)) ?_
  intro W base args ds gs before hval0 hW _ _ hL _
  have hval : ∀ (j : Nat) t v, Tryz.f6.params[j]? = some t → args[j]? = some v → Value.okWide Tryz.prog W .any base t v := hval0
  have hW' := hW
  obtain ⟨p, q, hA0, hV, rfl, hfz, hnd⟩ := hW
  have hA : DataW.TrodAll enc Tryz.prog W 0 (fun _ => true) true Tryz.f6.params.toList args.toList ds p := hA0
  rw [Tryz.params6] at hA hval
  obtain ⟨v0, vs0, d0, ds0, p0, q0, hargs, rfl, rfl, h0, r0⟩ := trodAll_cons hA
  obtain ⟨v1, vs1, d1, ds1, p1, q1, rfl, rfl, rfl, h1, r1⟩ := trodAll_cons r0
  obtain ⟨v2, vs2, d2, ds2, p2, q2, rfl, rfl, rfl, h2, r2⟩ := trodAll_cons r1
  obtain ⟨rfl, rfl, rfl⟩ := trodAll_nil r2
  obtain rfl : args = #[v0, v1, v2] := by cases args; simp_all
  obtain ⟨rfl, rfl⟩ := trodVars_none hV
  obtain ⟨c0, rfl, rfl, wf0⟩ := open_pos (hval 0 31 v0 rfl rfl) h0
  obtain ⟨N1, x1, rd1⟩ := open_nums (hval 1 78 v1 rfl rfl) h1
  obtain ⟨f2, g2, x2, y2, z2, rfl, rfl, wf2⟩ := open_move (hval 2 47 v2 rfl rfl) h2
  have hT := tb_of_laid hL
  clear hA0 hval0
  simp only [List.append_nil, List.nil_append] at hW'
  refine (stackRefused_walk c0 N1 x1 v1 f2 g2 x2 y2 z2 W wf0 rd1 wf2 hT).mono fun e W' ⟨he, hg⟩ => ?_
  subst he
  exact ⟨_, rfl, _, _, _, [], _, [], hW', trodAll_cons_mk (shut_bool Tryz.underlying4 _) trodAll_mk0, (trodAll_cons_mk (shut_pos h0) (trodAll_cons_mk (Below.trod Tryz.laidOut (by kernel_rfl) (of_decide_eq_true (by kernel_rfl)) h1 hg (fun x hx => by simpa using hW'.lt x (by simp [hx]))) (trodAll_cons_mk (shut_move h2) trodAll_mk0))), rfl, hg.frame _, fun h => by cases h⟩

set_option maxRecDepth 100000
theorem cl0 : Rows.stackRefusedRow.wf (OpenSpec.ofChange Rows.stackRefusedSpec) = true := by kernel_rfl
theorem cl1 : laidOutB Tryz.pinned.checked.prog = true := by kernel_rfl
theorem cl2 : mapsRowed Tryz.pinned.checked.prog = true := by kernel_rfl
theorem cl3 : Tryz.f6.params.all (Tryz.pinned.checked.prog.readableRec ·) = true := by kernel_rfl
theorem cl4 : namedTie Tryz.pinned.checked.prog Rows.stackRefusedRow.named Rows.stackRefusedSpec.vars = true := by kernel_rfl
theorem cl5 : (Rows.stackRefusedRow.stops == []) = true := by kernel_rfl
theorem cl6 : (Tryz.pinned.checked.prog.stops == []) = true := by kernel_rfl
theorem cl7 : (Rows.stackRefusedRow.knobs == []) = true := by kernel_rfl
theorem cl8 : (Tryz.pinned.checked.prog.stopKnobs == []) = true := by kernel_rfl
theorem cl9 : (Rows.stackRefusedRow.inPlace == Tryz.pinned.checked.prog.inPlace 6) = true := by kernel_rfl
theorem cl10 : (Rows.stackRefusedRow.unfollowed == Tryz.pinned.checked.prog.unfollowed 6) = true := by kernel_rfl
theorem cl11 : (Rows.stackRefusedRow.recurses == Tryz.pinned.checked.prog.recurses 6) = true := by kernel_rfl
theorem cl12 : (Rows.stackRefusedRow.named == Tryz.pinned.checked.prog.varsNamed 6) = true := by kernel_rfl
theorem cl13 : (Rows.stackRefusedRow.maps == (Tryz.f6.params.toList ++ Rows.stackRefusedSpec.plain.varTypes Tryz.pinned.checked.prog).any (Tryz.pinned.checked.prog.mapsRec ·)) = true := by kernel_rfl
theorem cl14 : (Rows.stackRefusedRow.ifaces == (Tryz.f6.params.toList ++ Rows.stackRefusedSpec.plain.varTypes Tryz.pinned.checked.prog).any (Tryz.pinned.checked.prog.ifacesRec ·)) = true := by kernel_rfl
theorem cl15 : (Rows.stackRefusedRow.mapsOut == Tryz.pinned.checked.prog.mapsAmong Tryz.f6.resultTypes.toList) = true := by kernel_rfl
theorem cl16 : (Rows.stackRefusedRow.loops == (Tryz.f6.params.toList ++ Rows.stackRefusedSpec.plain.varTypes Tryz.pinned.checked.prog).any (Tryz.pinned.checked.prog.loopsFrom ·)) = true := by kernel_rfl
theorem cl17 : (Rows.stackRefusedRow.wideKeys == (Tryz.f6.params.toList ++ Rows.stackRefusedSpec.plain.varTypes Tryz.pinned.checked.prog ++ Tryz.f6.resultTypes.toList).any (Tryz.pinned.checked.prog.wideKeysFrom ·)) = true := by kernel_rfl
theorem cl18 : Rows.stackRefusedSpec.vars.all (Tryz.pinned.checked.prog.varReadable ·) = true := by kernel_rfl
theorem cl19 : Tryz.f6.resultTypes.all (fun t => Tryz.pinned.checked.prog.readableRec t && decide (t < Tryz.pinned.checked.prog.types.size)) = true := by kernel_rfl
theorem cl20 : (Rows.stackRefusedRow.ifacesOut == Tryz.f6.resultTypes.toList.any (Tryz.pinned.checked.prog.ifacesRec ·)) = true := by kernel_rfl
theorem cl21 : (Rows.stackRefusedRow.loopsOut == Tryz.f6.resultTypes.toList.any (Tryz.pinned.checked.prog.loopsFrom ·)) = true := by kernel_rfl
theorem cl22 : (Rows.stackRefusedRow.plainKeys == Tryz.pinned.checked.prog.plainKeys) = true := by kernel_rfl
theorem cl23 : Rows.stackRefusedRow.shortTexts.isNone = true := by kernel_rfl
theorem cl24 : Tryz.pinned.checked.prog.stopsHeard = true := by kernel_rfl
theorem cl25 : Tryz.pinned.checked.prog.mayEnter = true := by kernel_rfl
theorem cl26 : (Rows.stackRefusedRow.lifted == Tryz.pinned.checked.prog.liftsFinal) = true := by kernel_rfl
theorem cl27 : (Tryz.pinned.checked.prog.make == some Rows.stackRefusedRow.make) = true := by kernel_rfl
theorem cl28 : (Rows.stackRefusedRow.kinds == (if Rows.stackRefusedRow.domain.isEmpty then [] else Tryz.f6.params.toList.map fun t => match Tryz.pinned.checked.prog.underlying t with | some (.int k) => some k | _ => none)) = true := by kernel_rfl
theorem cl29 : (Rows.stackRefusedRow.pinned == Rows.stackRefusedRow.pinnedBy) = true := by kernel_rfl
theorem cl30 : (Rows.stackRefusedRow.veiled == (Tryz.f6.params.toList ++ Rows.stackRefusedSpec.plain.varTypes Tryz.pinned.checked.prog ++ Tryz.f6.resultTypes.toList).any (Tryz.pinned.checked.prog.veiledRec ·)) = true := by kernel_rfl
theorem cl31 : Rows.stackRefusedRow.veiledFits Tryz.pinned.checked.prog Tryz.f6.params.toList (Tryz.f6.params.toList ++ Rows.stackRefusedSpec.plain.varTypes Tryz.pinned.checked.prog ++ Tryz.f6.resultTypes.toList) = true := by kernel_rfl
theorem and_b {a b : Bool} (h : a = true) (k : b = true) : (a && b) = true := by rw [h, k]; rfl
theorem closed : joinedFacts Tryz.pinned.checked.prog 6 Tryz.f6 Rows.stackRefusedSpec Rows.stackRefusedRow = true := and_b (and_b (and_b (and_b (and_b (and_b (and_b (and_b (and_b (and_b (and_b (and_b (and_b (and_b (and_b (and_b (and_b (and_b (and_b (and_b (and_b (and_b (and_b (and_b (and_b (and_b (and_b (and_b (and_b (and_b (and_b cl0 cl1) cl2) cl3) cl4) cl5) cl6) cl7) cl8) cl9) cl10) cl11) cl12) cl13) cl14) cl15) cl16) cl17) cl18) cl19) cl20) cl21) cl22) cl23) cl24) cl25) cl26) cl27) cl28) cl29) cl30) cl31
theorem over : Rows.stackRefusedRow.holds Tryz.pinned (OpenSpec.ofChange Rows.stackRefusedSpec) :=
  OpenClaim.holds_of_wide 6 Tryz.f6 rfl rfl rfl rfl rfl rfl rfl ⟨rfl, rfl, rfl, rfl, rfl⟩ rfl rfl rfl rfl rfl (by kernel_rfl) Tryz.func6 closed
    (of_decide_eq_true (by kernel_rfl)) (by unfold Func.isWrapper; first | (rw [if_pos (by decide +kernel)]; kernel_rfl) | (rw [if_neg (by decide +kernel)]; exact ⟨rfl, rfl⟩))
    (fun os started H enc _ => lifted os started H enc)

theorem pw : Rows.stackRefusedRow.wfByText (OpenSpec.ofChange Rows.stackRefusedSpec) = true := by kernel_rfl
theorem pm : Tryz.pinned.checked.prog.mainIs = some (true, "229ddeef9b05e6e9f38e4562323b10cf52e1a21da2d80309d48cdae820c6d416".toList) := by kernel_rfl
theorem pl : true = Tryz.pinned.checked.prog.looks [] := by kernel_rfl
theorem pg : false = Rows.stackRefusedRow.goesBy Tryz.pinned.checked.prog := by kernel_rfl
theorem pn : Tryz.prog.funcNamed "kibitzer/kibitzerlaw20.StackRefused" = some 6 := by kernel_rfl
/-- The statement. -/
theorem proved : Rows.StackRefusedCardSaid :=
  Claim7.holds_tied_plain_at .later [] [.data] true (true, "229ddeef9b05e6e9f38e4562323b10cf52e1a21da2d80309d48cdae820c6d416") true
    over (fun _ h => by cases h) pw (fun _ h => by cases h) stackRefused_row_tie rfl ⟨rfl, rfl⟩ pm rfl
    (fun f fn hf hfn => by
      obtain rfl : f = 6 := Option.some.inj (pn.symm.trans hf) |>.symm
      obtain rfl : fn = Tryz.f6 := (Option.some.inj (Tryz.func6.symm.trans hfn)).symm
      exact ⟨pl, fun j t ht => by
        rw [Tryz.params6] at ht
        exact plain_params _ (by decide +kernel) j t ht⟩)
    pg
#print axioms proved
end Go.Proofs.YtbakeajgolhkgaaGreatDoor.stackRefused
