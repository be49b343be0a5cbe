/- FnOwnerOf returns true for every input, as a tied card. No condition. -/
import Derived.Test.YtkbnkcdaiahoeaaDoorD9
import Derived.Test.YtkbnkcdaiahoeaaDoorAwX
import Derived.Test.YtkbnkcdaiahoeaaDoorRows
import Derived.Test.YtkbnkcdaiahoeaaDoorTie
import Derived.Test.YtkbnkcdaiahoeaaDoorCards
import Derived.ProofKit
import Derived.SizedLaws
import Derived.Lib.SmallJoins
import Derived.Lay
import Derived.LaidLaws
import Derived.SevenTiedAt
namespace Go.Proofs.YtkbnkcdaiahoeaaDoor
open Go.ChangeShapes Go.WideShapes Go.ChangeAt Go.RowKit
set_option maxRecDepth 100000
set_option linter.unusedVariables false
theorem own : ownKnob Tryd.prog.godebug = none := by kernel_rfl
theorem laidOut : laidOutB Tryd.prog = true := by kernel_rfl
theorem u4 : Tryd.prog.underlying 4 = some .bool := by kernel_rfl
theorem has_bytes {d : D} (h : Has (.sl [.int .u8]) d) : ∃ bs, d = .of bX bs := h.of fun e he => by
  obtain ⟨d, ds, rfl, h1, h2⟩ := he.c
  obtain ⟨n, rfl, hf⟩ := h1.i
  obtain rfl := h2.n
  have hb := fits_bounds hf
  rw [u8min, u8max] at hb
  refine ⟨UInt8.ofNat n.toNat, ?_⟩
  have : ((UInt8.ofNat n.toNat).toNat : Int) = n := by
    have h1 : (UInt8.ofNat n.toNat).toNat = n.toNat % 256 := by simp
    rw [h1]; omega
  simp only [bX, this]
theorem has_law (xs : List X) (h : HasXs [(false, [.sl [.int .u8]])] xs) : Fun Tryd.prog 4 xs (.d (.bool true)) := by
  obtain ⟨x, xs, rfl, h1, h2⟩ := h.c
  obtain rfl := h2.n
  obtain ⟨d, rfl, h3⟩ := h1.s
  obtain ⟨bs, rfl⟩ := has_bytes h3
  exact ownerOf_law bs
theorem ownerOf_lifted (os : Os) (started : os.Started) (H : Type) (enc : TypeId × Value → H) :
    ReturnsInHanded {} Tryd.checked os 4 .any (fun w args => (Rows.fnOwnerOfSpec.pre enc Tryd.prog Tryd.f4 Rows.fnOwnerOfRow.domain false w args ∧ laidMetH Tryd.prog Rows.fnOwnerOfRow.laid w) ∧ sizedMet enc Tryd.prog Tryd.f4 (OpenSpec.ofChange Rows.fnOwnerOfSpec) false w args)
      (Rows.fnOwnerOfSpec.post enc Tryd.prog Tryd.f4 false true false false) := by
  refine returnsInHanded_of_change_and (C := Tryd.checked) (X := fun w _ => laidMetH Tryd.prog Rows.fnOwnerOfRow.laid w) (fun _ _ _ hh h => h.of_heap hh) own started (by kernel_rfl) Tryd.func4
    (ChangeSpec.witness_shaped (enc := enc) (C := Tryd.checked) (os := os) (X := fun w _ => laidMetH Tryd.prog Rows.fnOwnerOfRow.laid w) false (World.laidAll Tryd.prog os Rows.fnOwnerOfRow.laid) #[.slice none 0 0] 8 (World.laidAll_os _ _ _)
      (World.shaped_of_ZipB (by kernel_rfl) (by kernel_rfl)) (by kernel_rfl) (by kernel_rfl) (by kernel_rfl)
      (by rw [MakeChecks.laidMetH_plain _ _ _ (by kernel_rfl)]; exact laidMet_laidAll _ (by kernel_rfl) (by kernel_rfl))) ?_
  intro W base args ds gs before hval0 hW hcnd hwt _ _
  have hW' := hW
  have hlt := hW.lt
  obtain ⟨p, q, hA, hV, rfl, hfz, hnd⟩ := hW
  obtain ⟨rfl, rfl⟩ := trodVars_none hV
  simp only [List.append_nil] at hW' hlt
  have hwt' : ∀ n ∈ DataW.weightsEach Tryd.prog Tryd.f4.params.toList ds, n ≤ reachBytes := by
    have e : DataSpec.varTypes Tryd.checked.prog Rows.fnOwnerOfSpec.plain = [] := by kernel_rfl
    rw [e, List.append_nil, List.append_nil] at hwt
    intro n hn
    exact of_decide_eq_true (List.all_eq_true.1 hwt n hn)
  have hval : ∀ (j : Nat) t v, Tryd.f4.params.toList[j]? = some t → args.toList[j]? = some v → Value.okWide Tryd.prog W .any base t v := fun j t v h1 h2 => hval0 j t v (by simpa using h1) (by simpa using h2)
  refine (law_call laidOut (f := 4) (ts := Tryd.f4.params.toList) (az := [(false, [.sl [.int .u8]])]) (by kernel_rfl) (of_decide_eq_true (by kernel_rfl)) has_law hval hwt' hA hlt).mono fun e W' ⟨he, hb, hback⟩ => ?_
  subst he
  obtain ⟨v0, d0, rfl, rfl, h0⟩ := trodAll_one hA
  exact ⟨_, rfl, ⟨_, _, _, [], _, [], hW', trodAll_mk1 (shut_bool u4 true), hback _ (fun x hx => by simpa using hlt x hx), rfl, hb.frame _, fun h => by cases h⟩⟩

theorem ownerOf_holds : Rows.FnOwnerOfSaid :=
  OpenClaim.holds_of_wide 4 Tryd.f4 rfl rfl rfl rfl rfl rfl rfl ⟨rfl, rfl, rfl, rfl, rfl⟩ rfl rfl rfl rfl rfl (by kernel_rfl) Tryd.func4 (by kernel_rfl)
    (of_decide_eq_true (by kernel_rfl)) (by unfold Func.isWrapper; first | (rw [if_pos (by decide +kernel)]; kernel_rfl) | (rw [if_neg (by decide +kernel)]; exact ⟨rfl, rfl⟩))
    (fun os started H enc _ => ownerOf_lifted os started H enc)
theorem ownerOf_card : Rows.FnOwnerOfCardSaid :=
  Claim7.holds_tied_plain_at .later [] [.data, .pinned] true (true, "5a59ff29b8e9fb3f255beaf172398f9f25cee75c4092136d6db14cb5173aa2db") true ownerOf_holds (fun _ h => by cases h) (by kernel_rfl) (fun _ h => by cases h) fnOwnerOf_row_tie rfl ⟨rfl, rfl⟩ (by kernel_rfl) rfl
    (fun f fn hf hfn => by
      obtain rfl : f = 4 := Option.some.inj ((show Tryd.prog.funcNamed "loop.example/stemma/laws.FnOwnerOf" = some 4 by kernel_rfl).symm.trans hf) |>.symm
      obtain rfl : fn = Tryd.f4 := (Option.some.inj (Tryd.func4.symm.trans hfn)).symm
      exact ⟨by kernel_rfl, fun j t ht => by
        rw [Tryd.params4] at ht
        have hm : t ∈ [29] := by simpa using Array.mem_of_getElem? ht
        have hall : ([29].all fun u => !Tryd.prog.wantsStandIn u) = true := by kernel_rfl
        exact (show Tryd.prog.wantsStandIn t = false by simpa using List.all_eq_true.1 hall t hm)⟩)
    (by kernel_rfl)
end Go.Proofs.YtkbnkcdaiahoeaaDoor
