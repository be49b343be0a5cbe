/- FnMemoPut returns true for every input. No condition. -/
import Derived.Test.YtmlbdicaeefomaaE44
import Derived.Test.YtmlbdicaeefomaaAwX
import Derived.Test.YtmlbdicaeefomaaRows
import Derived.ProofKit
import Derived.SizedLaws
import Derived.Lib.SmallJoins
namespace Go.Proofs.Ytmlbdicaeefomaa
open Go.ChangeShapes Go.WideShapes Go.ChangeAt Go.RowKit
set_option maxRecDepth 100000
set_option linter.unusedVariables false
theorem own : ownKnob Try.prog.godebug = none := by kernel_rfl
theorem laidOut : laidOutB Try.prog = true := by kernel_rfl
theorem u4 : Try.prog.underlying 4 = some .bool := by kernel_rfl
theorem has_bytes {d : D} (h : Has (.sl [.int .u8]) d) : ∃ bs, d = .of bX bs := h.of fun e he => by
  obtain ⟨d, ds, rfl, h1, h2⟩ := he.c
  obtain ⟨n, rfl, hf⟩ := h1.i
  obtain rfl := h2.n
  have hb := fits_bounds hf
  rw [u8min, u8max] at hb
  refine ⟨UInt8.ofNat n.toNat, ?_⟩
  have : ((UInt8.ofNat n.toNat).toNat : Int) = n := by
    have h1 : (UInt8.ofNat n.toNat).toNat = n.toNat % 256 := by simp
    rw [h1]; omega
  simp only [bX, this]
theorem has_law (xs : List X) (h : HasXs [(false, [.sl [.int .u8]])] xs) : Fun Try.prog 4 xs (.d (.bool true)) := by
  obtain ⟨x, xs, rfl, h1, h2⟩ := h.c
  obtain rfl := h2.n
  obtain ⟨d, rfl, h3⟩ := h1.s
  obtain ⟨bs, rfl⟩ := has_bytes h3
  exact memoPut_law bs

theorem memoPut_lifted (os : Os) (started : os.Started) (H : Type) (enc : TypeId × Value → H) :
    ReturnsInHanded {} Try.checked os 4 .any (Rows.fnMemoPutSpec.pre6 enc Try.prog Try.f4 Rows.fnMemoPutRow.domain false) (Rows.fnMemoPutSpec.post enc Try.prog Try.f4 false true false false) := by
  refine returnsInHanded_of_change_sized (C := Try.checked) own started (by kernel_rfl) Try.func4
    (ChangeSpec.witness6 (enc := enc) (C := Try.checked) false ⟨#[], #[.slice none 0 0], []⟩ 8 (by kernel_rfl) (by kernel_rfl) (by kernel_rfl) (by kernel_rfl)) ?_
  intro W base args ds gs before hval0 hW hcnd hwt _
  have hW' := hW
  have hlt := hW.lt
  obtain ⟨p, q, hA, hV, rfl, hfz, hnd⟩ := hW
  obtain ⟨rfl, rfl⟩ := trodVars_none hV
  simp only [List.append_nil] at hW' hlt
  have hwt' : ∀ n ∈ DataW.weightsEach Try.prog Try.f4.params.toList ds, n ≤ reachBytes := by
    have e : DataSpec.varTypes Try.checked.prog Rows.fnMemoPutSpec.plain = [] := by kernel_rfl
    rw [e, List.append_nil, List.append_nil] at hwt
    intro n hn
    exact of_decide_eq_true (List.all_eq_true.1 hwt n hn)
  have hval : ∀ (j : Nat) t v, Try.f4.params.toList[j]? = some t → args.toList[j]? = some v → Value.okWide Try.prog W .any base t v := fun j t v h1 h2 => hval0 j t v (by simpa using h1) (by simpa using h2)
  refine (law_call laidOut (f := 4) (ts := Try.f4.params.toList) (az := [(false, [.sl [.int .u8]])]) (by kernel_rfl) (of_decide_eq_true (by kernel_rfl)) has_law hval hwt' hA hlt).mono fun e W' ⟨he, hb, hback⟩ => ?_
  subst he
  obtain ⟨v0, d0, rfl, rfl, h0⟩ := trodAll_one hA
  exact ⟨_, rfl, ⟨_, _, _, [], p, [], hW', trodAll_mk1 (shut_bool u4 true), hback _ (fun x hx => by simpa using hlt x hx), rfl, hb.frame _, fun h => by cases h⟩⟩

theorem memoPut_holds : Rows.FnMemoPutSaid :=
  OpenClaim.holds_of_wide 4 Try.f4 rfl rfl rfl rfl rfl rfl rfl ⟨rfl, rfl, rfl, rfl, rfl⟩ rfl rfl rfl rfl rfl (by kernel_rfl) Try.func4 (by kernel_rfl)
    (of_decide_eq_true (by kernel_rfl)) (by unfold Func.isWrapper; first | (rw [if_pos (by decide +kernel)]; kernel_rfl) | (rw [if_neg (by decide +kernel)]; exact ⟨rfl, rfl⟩))
    (fun os started H enc _ => memoPut_lifted os started H enc)
end Go.Proofs.Ytmlbdicaeefomaa
