/- FnExactReviewOk returns true for every input. No condition. -/
import Derived.Test.YtmlbdicaeefomaaE12
import Derived.Test.YtmlbdicaeefomaaRows
import Derived.ProofKit
import Derived.Lib.SmallJoins
import Derived.SliceStrings
namespace Go.Proofs.Ytmlbdicaeefomaa
open Go.ChangeShapes Go.WideShapes Go.ChangeAt Go.RowKit
set_option maxRecDepth 100000
set_option linter.unusedVariables false
theorem own : ownKnob Try.prog.godebug = none := by kernel_rfl
theorem laidOut : laidOutB Try.prog = true := by kernel_rfl
abbrev L0 : Lim := fun _ => false
/-- A slice of strings, as it was handed in. -/
theorem den_strings {W : World} {cs : List Value} {H : Type} {enc : TypeId × Value → H} {fuel : Nat} {x : DataW H × List MemPlace} {t e : TypeId} {base : Nat} {held : Bool} (ht : Try.prog.underlying t = some (.slice e)) (he : Try.prog.underlying e = some .string) (hc : Try.prog.cellsOf e = 1)
    (h : DataW.trod enc Try.prog W base (fun _ => true) held fuel t cs = some x) : ∃ (ss : List ByteArray) (u : Value), cs = [u] ∧ Den L0 W (strs ss) u := by
  rcases open_strings ht he hc h with ⟨rfl, -⟩ | ⟨a, len, cap, ss, rfl, -, hl, hm, hs, -, hcell, hsz⟩
  · exact ⟨[], _, rfl, den_nil _ _ (Nat.zero_le _) (fun _ => rfl)⟩
  · simp only [if_true] at hs
    have hmax : maxLen = 9223372036854775807 := rfl
    refine ⟨ss.take len, _, rfl, ?_⟩
    have hlen : ((ss.take len).map sS).length = len := by simp; omega
    have hv : Value.slice (some a) len cap = .slice (some a) ((ss.take len).map sS).length cap := by rw [hlen]
    rw [hv]
    refine .sl (fun i j => .string (ss.getD i ByteArray.empty)) (by omega) (by show cap ≤ 9223372036854775807; omega) (fun h => by cases h) (fun hne => ?_) (fun i hi j hj => ?_)
    · have hpos : 0 < ss.length := by
        rcases Nat.eq_zero_or_pos ss.length with h | h
        · exact absurd (by simp [List.length_eq_zero_iff.1 h]) hne
        · exact h
      have h0 := hcell 0 hpos
      have hsp : a.spot = none := by
        unfold Addr.add at h0
        simp only [if_true] at h0
        unfold World.cell? at h0
        split at h0
        · split at h0
          · cases h0
          · rename_i hh; simpa using hh
        · cases h0
      obtain ⟨b, o, sp⟩ := a
      simp only at hsp; subst hsp
      refine ⟨b, o, 1, rfl, fun i hi => ⟨by simp [sS], fun j hj => ⟨rfl, ?_⟩⟩⟩
      have hi' : i < ss.length := by simp at hi; omega
      have := hcell i hi'
      rw [← this]
      congr 1
      unfold Addr.add
      split
      · rename_i hz; subst hz; (simp <;> omega)
      · (simp <;> omega)
    · have hi' : i < ss.length := by simp at hi; omega
      have hj' : j = 0 := by simp [sS] at hj; omega
      subst hj'
      have hget : ss.getD i ByteArray.empty = ss[i] := by simp [hi']
      simp only [List.getElem_map, List.getElem_take, sS, List.getElem_cons_zero, hget]
      exact .str (by have := hsz ss[i] (List.getElem_mem _); show _ ≤ 9223372036854775807; omega)
theorem u9 : Try.prog.underlying 9 = some .string := by kernel_rfl
theorem u4 : Try.prog.underlying 4 = some .bool := by kernel_rfl
theorem u22 : Try.prog.underlying 22 = some (.slice 9) := by kernel_rfl
theorem c9 : Try.prog.cellsOf 9 = 1 := by kernel_rfl
theorem c24 : Try.prog.cellsOf 24 = 4 := by kernel_rfl

theorem exactReviewOk_lifted (os : Os) (started : os.Started) (H : Type) (enc : TypeId × Value → H) :
    ReturnsInHanded {} Try.checked os 3 .any (Rows.fnExactReviewOkSpec.pre6 enc Try.prog Try.f3 Rows.fnExactReviewOkRow.domain false) (Rows.fnExactReviewOkSpec.post enc Try.prog Try.f3 false true false false) := by
  refine returnsInHanded_of_change (C := Try.checked) own started (by kernel_rfl) Try.func3
    (ChangeSpec.witness6 (enc := enc) (C := Try.checked) false ⟨#[], #[.agg #[.string ByteArray.empty, .string ByteArray.empty, .string ByteArray.empty, .slice none 0 0]], []⟩ 8 (by kernel_rfl) (by kernel_rfl) (by kernel_rfl) (by kernel_rfl)) ?_
  intro W base args ds gs before hval0 hW hcnd _
  have hval : ∀ (j : Nat) t v, Try.f3.params[j]? = some t → args[j]? = some v → Value.okWide Try.prog W .any base t v := hval0
  have hW' := hW
  have hlt := hW.lt
  obtain ⟨p, q, hA0, hV, rfl, hfz, hnd⟩ := hW
  have hA : DataW.TrodAll enc Try.prog W 0 (fun _ => true) true Try.f3.params.toList args.toList ds p := hA0
  rw [show Try.f3.params = #[24] from rfl] at hA hval
  obtain ⟨v0, d0, rfl, rfl, h0⟩ := trodAll_one hA
  obtain ⟨rfl, rfl⟩ := trodVars_none hV
  clear hA0 hval0
  simp only [List.append_nil] at hW' hlt
  obtain ⟨w0, w1, w2, w3, y0, y1, y2, y3, n, rfl, -, -, k0, k1, k2, k3⟩ := Joins.open_agg4 (f0 := { name := "Branch", type := 9, offset := 0, embedded := false, tag := "", pkgPath := "", byteOffset := 0 }) (f1 := { name := "Into", type := 9, offset := 1, embedded := false, tag := "", pkgPath := "", byteOffset := 16 })
    (f2 := { name := "By", type := 9, offset := 2, embedded := false, tag := "", pkgPath := "", byteOffset := 32 }) (f3 := { name := "Yes", type := 22, offset := 3, embedded := false, tag := "", pkgPath := "", byteOffset := 48 }) (by kernel_rfl) (by kernel_rfl) c24 (hval 0 24 _ rfl rfl) h0
  obtain ⟨s0, e0, -, z0⟩ := DataW.trod_string u9 k0
  obtain ⟨s1, e1, -, z1⟩ := DataW.trod_string u9 k1
  obtain ⟨s2, e2, -, z2⟩ := DataW.trod_string u9 k2
  obtain ⟨ss, u3, e3, den3⟩ := den_strings u22 u9 c9 k3
  simp only [List.cons.injEq, and_true] at e0 e1 e2 e3
  subst e0 e1 e2 e3
  have hrel : Rel (fun _ => ⟨0, 0, true⟩) (fun _ => False) L0 W (.ag [.d (.str s0), .d (.str s1), .d (.str s2), .d (strs ss)]) (.agg #[.string s0, .string s1, .string s2, w3]) := by
    refine .ag [.string s0, .string s1, .string s2, w3] rfl (fun i hi => ?_)
    match i, hi with
    | 0, _ => exact .d (.str z0)
    | 1, _ => exact .d (.str z1)
    | 2, _ => exact .d (.str z2)
    | 3, _ => exact .d den3
  refine ((law_spec ⟨s0, s1, s2, ss⟩ 0).2 (fun _ => ⟨0, 0, true⟩) (fun _ => False) L0 W [_] ⟨fun n c hc => (by cases hc), fun n hn => absurd rfl hn, fun n m hn => absurd rfl hn, fun n hn => absurd rfl hn⟩ (fun h => h) rfl (fun i hi => by
    have : i = 0 := by simp at hi; omega
    subst this
    exact hrel)).mono fun e W' ⟨v', he, x, δ, ι', L', ⟨hx, hδ⟩, hr, _, hevo, _, _⟩ => ?_
  subst hx he
  have hv' := hr.bool_inv
  subst hv'
  have hb : Below W.heap.size W W' := hevo.below
  have hback : ∀ sp : Nat → Bool, (∀ x ∈ p, sp x.block = true) → DataW.Trod enc Try.prog W' 0 sp true 24 (.agg #[.string s0, .string s1, .string s2, w3]) d0 p := fun sp hsp =>
    WideElems.Trod_stays laidOut (by kernel_rfl) (of_decide_eq_true (by kernel_rfl)) h0 (fun x hx => hb.same (hlt x hx)) hsp
  exact ⟨_, rfl, ⟨_, _, _, [], p, [], hW', trodAll_mk1 (shut_bool u4 true), trodAll_mk1 (hback _ (fun x hx => by simpa using hlt x hx)), rfl, hb.frame _, fun h => by cases h⟩⟩

theorem exactReviewOk_holds : Rows.FnExactReviewOkSaid :=
  OpenClaim.holds_of_wide 3 Try.f3 rfl rfl rfl rfl rfl rfl rfl ⟨rfl, rfl, rfl, rfl, rfl⟩ rfl rfl rfl rfl rfl (by kernel_rfl) Try.func3 (by kernel_rfl)
    (of_decide_eq_true (by kernel_rfl)) (by unfold Func.isWrapper; first | (rw [if_pos (by decide +kernel)]; kernel_rfl) | (rw [if_neg (by decide +kernel)]; exact ⟨rfl, rfl⟩))
    (fun os started H enc _ => exactReviewOk_lifted os started H enc)
end Go.Proofs.Ytmlbdicaeefomaa
