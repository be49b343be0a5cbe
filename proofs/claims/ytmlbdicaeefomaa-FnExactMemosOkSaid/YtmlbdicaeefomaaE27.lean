/- FnExactMemosOk returns true for every input. No condition. -/
import Derived.Test.YtmlbdicaeefomaaE26
import Derived.Test.YtmlbdicaeefomaaAwX
import Derived.Test.YtmlbdicaeefomaaRows
import Derived.ProofKit
import Derived.Lib.SmallJoins
namespace Go.Proofs.Ytmlbdicaeefomaa
open Go.ChangeShapes Go.WideShapes Go.ChangeAt Go.RowKit
set_option maxRecDepth 100000
set_option linter.unusedVariables false
theorem own : ownKnob Try.prog.godebug = none := by kernel_rfl
theorem laidOut : laidOutB Try.prog = true := by kernel_rfl
theorem u4 : Try.prog.underlying 4 = some .bool := by kernel_rfl
theorem has_strs {d : D} (h : Has (.sl [.str]) d) : ∃ ss, d = .of sS ss := h.of (f := sS) fun e he => by
  obtain ⟨d, ds, rfl, h1, h2⟩ := he.c
  obtain ⟨s, rfl⟩ := h1.s
  obtain rfl := h2.n
  exact ⟨s, rfl⟩
theorem has_mm {d : D} (h : Has (.sl [.sl [.str], .sl [.str], .sl [.str], .sl [.str]]) d) : ∃ ms, d = .of mmX ms := h.of fun e he => by
  obtain ⟨d0, e, rfl, k0, he⟩ := he.c
  obtain ⟨d1, e, rfl, k1, he⟩ := he.c
  obtain ⟨d2, e, rfl, k2, he⟩ := he.c
  obtain ⟨d3, e, rfl, k3, he⟩ := he.c
  obtain rfl := he.n
  obtain ⟨s0, rfl⟩ := has_strs k0
  obtain ⟨s1, rfl⟩ := has_strs k1
  obtain ⟨s2, rfl⟩ := has_strs k2
  obtain ⟨s3, rfl⟩ := has_strs k3
  exact ⟨⟨s0, s1, s2, s3⟩, rfl⟩
theorem has_law (xs : List X) (h : HasXs [(false, [.sl [.sl [.str], .sl [.str], .sl [.str], .sl [.str]]])] xs) : Fun Try.prog 5 xs (.d (.bool true)) := by
  obtain ⟨x, xs, rfl, h1, h2⟩ := h.c
  obtain rfl := h2.n
  obtain ⟨d, rfl, h3⟩ := h1.s
  obtain ⟨ms, rfl⟩ := has_mm h3
  exact memosOk_law ms

theorem exactMemosOk_lifted (os : Os) (started : os.Started) (H : Type) (enc : TypeId × Value → H) :
    ReturnsInHanded {} Try.checked os 5 .any (Rows.fnExactMemosOkSpec.pre6 enc Try.prog Try.f5 Rows.fnExactMemosOkRow.domain false) (Rows.fnExactMemosOkSpec.post enc Try.prog Try.f5 false true false false) := by
  refine returnsInHanded_of_change (C := Try.checked) own started (by kernel_rfl) Try.func5
    (ChangeSpec.witness6 (enc := enc) (C := Try.checked) false ⟨#[], #[.slice none 0 0], []⟩ 8 (by kernel_rfl) (by kernel_rfl) (by kernel_rfl) (by kernel_rfl)) ?_
  intro W base args ds gs before hval0 hW hcnd _
  have hW' := hW
  have hlt := hW.lt
  obtain ⟨p, q, hA, hV, rfl, hfz, hnd⟩ := hW
  obtain ⟨rfl, rfl⟩ := trodVars_none hV
  simp only [List.append_nil] at hW' hlt
  have hval : ∀ (j : Nat) t v, Try.f5.params.toList[j]? = some t → args.toList[j]? = some v → Value.okWide Try.prog W .any base t v := fun j t v h1 h2 => hval0 j t v (by simpa using h1) (by simpa using h2)
  refine (law_call laidOut (f := 5) (ts := Try.f5.params.toList) (az := [(false, [.sl [.sl [.str], .sl [.str], .sl [.str], .sl [.str]]])]) (by kernel_rfl) (of_decide_eq_true (by kernel_rfl)) has_law hval hA hlt).mono fun e W' ⟨he, hb, hback⟩ => ?_
  subst he
  obtain ⟨v0, d0, rfl, rfl, h0⟩ := trodAll_one hA
  exact ⟨_, rfl, ⟨_, _, _, [], p, [], hW', trodAll_mk1 (shut_bool u4 true), hback _ (fun x hx => by simpa using hlt x hx), rfl, hb.frame _, fun h => by cases h⟩⟩

theorem exactMemosOk_holds : Rows.FnExactMemosOkSaid :=
  OpenClaim.holds_of_wide 5 Try.f5 rfl rfl rfl rfl rfl rfl rfl ⟨rfl, rfl, rfl, rfl, rfl⟩ rfl rfl rfl rfl rfl (by kernel_rfl) Try.func5 (by kernel_rfl)
    (of_decide_eq_true (by kernel_rfl)) (by unfold Func.isWrapper; first | (rw [if_pos (by decide +kernel)]; kernel_rfl) | (rw [if_neg (by decide +kernel)]; exact ⟨rfl, rfl⟩))
    (fun os started H enc _ => exactMemosOk_lifted os started H enc)
end Go.Proofs.Ytmlbdicaeefomaa
