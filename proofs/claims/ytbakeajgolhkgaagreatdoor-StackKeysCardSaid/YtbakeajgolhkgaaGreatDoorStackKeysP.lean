/- The statement 'StackKeys', a tied card: for every position and the like the law returns true. No condition; the one listed variable is tied to the program's text. -/
import Derived.Test.YtbakeajgolhkgaaGreatDoorRows
import Derived.Test.YtbakeajgolhkgaaGreatDoorCards
import Derived.Test.YtbakeajgolhkgaaGreatDoorTie
import Derived.WalkKit
import Derived.ProofKit
import Derived.LaidMore
import Derived.OpenShut
import Derived.ShutString
import Derived.Stop.Joined
import Derived.SevenTiedAt
import Derived.Test.YtbakeajgolhkgaaGreatDoorZa
import Derived.Test.YtbakeajgolhkgaaGreatDoorZc
import Derived.Carry
import Derived.Test.YtbakeajgolhkgaaGreatDoorSd
namespace Go.Proofs.YtbakeajgolhkgaaGreatDoor.stackKeys
open Go.ChangeShapes Go.WideShapes Go.ChangeAt Go.RowKit
open Go.WideMaps Go.WideElems
open Go.ChangeMaps (setBlock shut_map_nil open_string shut_string keptBut_setBlock frozen?_setBlock heap_setBlock_same)

theorem plain_params (l : List TypeId) (h : l.all (fun t => !Tryz.prog.wantsStandIn t) = true) (j : Nat) (t : TypeId) (ht : l.toArray[j]? = some t) : Tryz.prog.wantsStandIn t = false := by
  rw [List.getElem?_toArray] at ht
  have := List.all_eq_true.1 h t (List.mem_of_getElem? ht)
  simpa using this
theorem own : ownKnob Tryz.prog.godebug = none := by kernel_rfl

set_option maxRecDepth 100000 in
theorem lifted (os : Os) (started : os.Started) (H : Type) (enc : TypeId × Value → H) :
    ReturnsInHanded {} Tryz.checked os 9 .any (fun w args => (Rows.stackKeysSpec.pre enc Tryz.prog Tryz.f9 [] false w args ∧ laidMetH Tryz.prog Rows.stackKeysRow.laid w) ∧ sizedMet enc Tryz.prog Tryz.f9 (OpenSpec.ofChange Rows.stackKeysSpec) false w args)
      (Rows.stackKeysSpec.post enc Tryz.prog Tryz.f9 false true false false) := by
  refine returnsInHanded_of_change_and (C := Tryz.checked) (X := fun w _ => laidMetH Tryz.prog Rows.stackKeysRow.laid w) (fun _ _ _ hh h => h.of_heap hh) own started (by kernel_rfl) Tryz.func9
    (ChangeSpec.witness_shaped (enc := enc) (C := Tryz.checked) (os := os) (X := fun w _ => laidMetH Tryz.prog Rows.stackKeysRow.laid w) false (World.doorLaid Tryz.prog 400 os) #[.agg (posC fun _ => 0), .slice none 0 0] 8 rfl (World.shaped_of_RefB (by kernel_rfl) (by kernel_rfl)) (by kernel_rfl) (by kernel_rfl) (by kernel_rfl) (door_met os _)) ?_
  intro W base args ds gs before hval0 hW _ _ hL _
  have hval : ∀ (j : Nat) t v, Tryz.f9.params[j]? = some t → args[j]? = some v → Value.okWide Tryz.prog W .any base t v := hval0
  have hW' := hW
  obtain ⟨p, q, hA0, hV, rfl, hfz, hnd⟩ := hW
  have hA : DataW.TrodAll enc Tryz.prog W 0 (fun _ => true) true Tryz.f9.params.toList args.toList ds p := hA0
  rw [Tryz.params9] at hA hval
  obtain ⟨v0, vs0, d0, ds0, p0, q0, hargs, rfl, rfl, h0, r0⟩ := trodAll_cons hA
  obtain ⟨v1, vs1, d1, ds1, p1, q1, rfl, rfl, rfl, h1, r1⟩ := trodAll_cons r0
  obtain ⟨rfl, rfl, rfl⟩ := trodAll_nil r1
  obtain rfl : args = #[v0, v1] := by cases args; simp_all
  obtain ⟨rfl, rfl⟩ := trodVars_none hV
  obtain ⟨c0, rfl, rfl, wf0⟩ := open_pos (hval 0 31 v0 rfl rfl) h0
  obtain ⟨N1, x1, rd1⟩ := open_nums (hval 1 78 v1 rfl rfl) h1
  have hT := tb_of_laid hL
  clear hA0 hval0
  simp only [List.append_nil, List.nil_append] at hW'
  refine (stackKeys_walk c0 N1 x1 v1 W wf0 rd1 hT).mono fun e W' ⟨he, hg⟩ => ?_
  subst he
  exact ⟨_, rfl, _, _, _, [], _, [], hW', trodAll_cons_mk (shut_bool Tryz.underlying4 _) trodAll_mk0, (trodAll_cons_mk (shut_pos h0) (trodAll_cons_mk (Below.trod (by kernel_rfl) (by kernel_rfl) (of_decide_eq_true (by kernel_rfl)) h1 hg (fun x hx => by simpa using hW'.lt x (by simp [hx]))) trodAll_mk0)), rfl, hg.frame _, fun h => by cases h⟩

set_option maxRecDepth 100000
theorem cl0 : Rows.stackKeysRow.wf (OpenSpec.ofChange Rows.stackKeysSpec) = true := by kernel_rfl
theorem cl1 : laidOutB Tryz.pinned.checked.prog = true := by kernel_rfl
theorem cl2 : mapsRowed Tryz.pinned.checked.prog = true := by kernel_rfl
theorem cl3 : Tryz.f9.params.all (Tryz.pinned.checked.prog.readableRec ·) = true := by kernel_rfl
theorem cl4 : namedTie Tryz.pinned.checked.prog Rows.stackKeysRow.named Rows.stackKeysSpec.vars = true := by kernel_rfl
theorem cl5 : (Rows.stackKeysRow.stops == []) = true := by kernel_rfl
theorem cl6 : (Tryz.pinned.checked.prog.stops == []) = true := by kernel_rfl
theorem cl7 : (Rows.stackKeysRow.knobs == []) = true := by kernel_rfl
theorem cl8 : (Tryz.pinned.checked.prog.stopKnobs == []) = true := by kernel_rfl
theorem cl9 : (Rows.stackKeysRow.inPlace == Tryz.pinned.checked.prog.inPlace 9) = true := by kernel_rfl
theorem cl10 : (Rows.stackKeysRow.unfollowed == Tryz.pinned.checked.prog.unfollowed 9) = true := by kernel_rfl
theorem cl11 : (Rows.stackKeysRow.recurses == Tryz.pinned.checked.prog.recurses 9) = true := by kernel_rfl
theorem cl12 : (Rows.stackKeysRow.named == Tryz.pinned.checked.prog.varsNamed 9) = true := by kernel_rfl
theorem cl13 : (Rows.stackKeysRow.maps == (Tryz.f9.params.toList ++ Rows.stackKeysSpec.plain.varTypes Tryz.pinned.checked.prog).any (Tryz.pinned.checked.prog.mapsRec ·)) = true := by kernel_rfl
theorem cl14 : (Rows.stackKeysRow.ifaces == (Tryz.f9.params.toList ++ Rows.stackKeysSpec.plain.varTypes Tryz.pinned.checked.prog).any (Tryz.pinned.checked.prog.ifacesRec ·)) = true := by kernel_rfl
theorem cl15 : (Rows.stackKeysRow.mapsOut == Tryz.pinned.checked.prog.mapsAmong Tryz.f9.resultTypes.toList) = true := by kernel_rfl
theorem cl16 : (Rows.stackKeysRow.loops == (Tryz.f9.params.toList ++ Rows.stackKeysSpec.plain.varTypes Tryz.pinned.checked.prog).any (Tryz.pinned.checked.prog.loopsFrom ·)) = true := by kernel_rfl
theorem cl17 : (Rows.stackKeysRow.wideKeys == (Tryz.f9.params.toList ++ Rows.stackKeysSpec.plain.varTypes Tryz.pinned.checked.prog ++ Tryz.f9.resultTypes.toList).any (Tryz.pinned.checked.prog.wideKeysFrom ·)) = true := by kernel_rfl
theorem cl18 : Rows.stackKeysSpec.vars.all (Tryz.pinned.checked.prog.varReadable ·) = true := by kernel_rfl
theorem cl19 : Tryz.f9.resultTypes.all (fun t => Tryz.pinned.checked.prog.readableRec t && decide (t < Tryz.pinned.checked.prog.types.size)) = true := by kernel_rfl
theorem cl20 : (Rows.stackKeysRow.ifacesOut == Tryz.f9.resultTypes.toList.any (Tryz.pinned.checked.prog.ifacesRec ·)) = true := by kernel_rfl
theorem cl21 : (Rows.stackKeysRow.loopsOut == Tryz.f9.resultTypes.toList.any (Tryz.pinned.checked.prog.loopsFrom ·)) = true := by kernel_rfl
theorem cl22 : (Rows.stackKeysRow.plainKeys == Tryz.pinned.checked.prog.plainKeys) = true := by kernel_rfl
theorem cl23 : Rows.stackKeysRow.shortTexts.isNone = true := by kernel_rfl
theorem cl24 : Tryz.pinned.checked.prog.stopsHeard = true := by kernel_rfl
theorem cl25 : Tryz.pinned.checked.prog.mayEnter = true := by kernel_rfl
theorem cl26 : (Rows.stackKeysRow.lifted == Tryz.pinned.checked.prog.liftsFinal) = true := by kernel_rfl
theorem cl27 : (Tryz.pinned.checked.prog.make == some Rows.stackKeysRow.make) = true := by kernel_rfl
theorem cl28 : (Rows.stackKeysRow.kinds == (if Rows.stackKeysRow.domain.isEmpty then [] else Tryz.f9.params.toList.map fun t => match Tryz.pinned.checked.prog.underlying t with | some (.int k) => some k | _ => none)) = true := by kernel_rfl
theorem cl29 : (Rows.stackKeysRow.pinned == Rows.stackKeysRow.pinnedBy) = true := by kernel_rfl
theorem cl30 : (Rows.stackKeysRow.veiled == (Tryz.f9.params.toList ++ Rows.stackKeysSpec.plain.varTypes Tryz.pinned.checked.prog ++ Tryz.f9.resultTypes.toList).any (Tryz.pinned.checked.prog.veiledRec ·)) = true := by kernel_rfl
theorem cl31 : Rows.stackKeysRow.veiledFits Tryz.pinned.checked.prog Tryz.f9.params.toList (Tryz.f9.params.toList ++ Rows.stackKeysSpec.plain.varTypes Tryz.pinned.checked.prog ++ Tryz.f9.resultTypes.toList) = true := by kernel_rfl
theorem and_b {a b : Bool} (h : a = true) (k : b = true) : (a && b) = true := by rw [h, k]; rfl
theorem closed : joinedFacts Tryz.pinned.checked.prog 9 Tryz.f9 Rows.stackKeysSpec Rows.stackKeysRow = true := and_b (and_b (and_b (and_b (and_b (and_b (and_b (and_b (and_b (and_b (and_b (and_b (and_b (and_b (and_b (and_b (and_b (and_b (and_b (and_b (and_b (and_b (and_b (and_b (and_b (and_b (and_b (and_b (and_b (and_b (and_b cl0 cl1) cl2) cl3) cl4) cl5) cl6) cl7) cl8) cl9) cl10) cl11) cl12) cl13) cl14) cl15) cl16) cl17) cl18) cl19) cl20) cl21) cl22) cl23) cl24) cl25) cl26) cl27) cl28) cl29) cl30) cl31
theorem over : Rows.stackKeysRow.holds Tryz.pinned (OpenSpec.ofChange Rows.stackKeysSpec) :=
  OpenClaim.holds_of_wide 9 Tryz.f9 rfl rfl rfl rfl rfl rfl rfl ⟨rfl, rfl, rfl, rfl, rfl⟩ rfl rfl rfl rfl rfl (by kernel_rfl) Tryz.func9 closed
    (of_decide_eq_true (by kernel_rfl)) (by unfold Func.isWrapper; first | (rw [if_pos (by decide +kernel)]; kernel_rfl) | (rw [if_neg (by decide +kernel)]; exact ⟨rfl, rfl⟩))
    (fun os started H enc _ => lifted os started H enc)

theorem pw : Rows.stackKeysRow.wfByText (OpenSpec.ofChange Rows.stackKeysSpec) = true := by kernel_rfl
theorem pm : Tryz.pinned.checked.prog.mainIs = some (true, "229ddeef9b05e6e9f38e4562323b10cf52e1a21da2d80309d48cdae820c6d416".toList) := by kernel_rfl
theorem pl : true = Tryz.pinned.checked.prog.looks [] := by kernel_rfl
theorem pg : false = Rows.stackKeysRow.goesBy Tryz.pinned.checked.prog := by kernel_rfl
theorem pn : Tryz.prog.funcNamed "kibitzer/kibitzerlaw20.StackKeys" = some 9 := by kernel_rfl
/-- The statement. -/
theorem proved : Rows.StackKeysCardSaid :=
  Claim7.holds_tied_plain_at .later [] [.data] true (true, "229ddeef9b05e6e9f38e4562323b10cf52e1a21da2d80309d48cdae820c6d416") true
    over (fun _ h => by cases h) pw (fun _ h => by cases h) stackKeys_row_tie rfl ⟨rfl, rfl⟩ pm rfl
    (fun f fn hf hfn => by
      obtain rfl : f = 9 := Option.some.inj (pn.symm.trans hf) |>.symm
      obtain rfl : fn = Tryz.f9 := (Option.some.inj (Tryz.func9.symm.trans hfn)).symm
      exact ⟨pl, fun j t ht => by
        rw [Tryz.params9] at ht
        exact plain_params _ (by decide +kernel) j t ht⟩)
    pg
#print axioms proved
end Go.Proofs.YtbakeajgolhkgaaGreatDoor.stackKeys
