/- memos drawn from a code; the law FnMemoPut over data. No condition. -/
import Derived.Test.YtmlbdicaeefomaaE42
import Derived.Test.YtmlbdicaeefomaaAxF
namespace Go.Proofs.Ytmlbdicaeefomaa
open Go Go.RowKit
set_option maxRecDepth 100000
set_option maxHeartbeats 4000000
set_option linter.unusedSimpArgs false
set_option linter.unusedVariables false
theorem tel94 : telem Try.prog 94 = some (22, 1, 24) := by kernel_rfl
theorem sz22 : (tzero Try.prog 22).isSome = true := by kernel_rfl
def shX (ss : List ByteArray) : List D := [strs ss]
def SH : List (List ByteArray) := [[], [⟨#[97]⟩], [⟨#[98]⟩], [⟨#[99]⟩, ⟨#[100]⟩]]
theorem sh_get {i : Nat} {c : List D} (h : (SH.map shX)[i]? = some c) : ∃ y : List ByteArray, y.length ≤ 2 ∧ c = [strs y] := by
  rw [List.getElem?_map] at h
  cases hs : SH[i]? with
  | none => rw [hs] at h; cases h
  | some y =>
    rw [hs] at h
    refine ⟨y, ?_, (Option.some.inj h).symm⟩
    have := List.mem_of_getElem? hs
    simp only [SH, List.mem_cons, List.not_mem_nil, or_false] at this
    rcases this with rfl | rfl | rfl | rfl <;> simp
def shR (bs : List UInt8) (p : Int) : X → Cap → Prop := fun x c' => ∃ s : List ByteArray, s.length ≤ 2 ∧ x = .d (strs s) ∧ c' = rdC bs (p + 1)
theorem shR_on {bs : List UInt8} {p : Int} : ∀ x c', shR bs p x c' → x.on (fun _ => false) = true ∧ c'.on (fun _ => false) = true := by
  rintro x c' ⟨r, -, rfl, rfl⟩
  exact ⟨rfl, rfl⟩
theorem shR_ne (bs : List UInt8) (p : Int) : ∃ x c', shR bs p x c' := ⟨_, _, [], by simp, rfl, rfl⟩
def mmR (bs : List UInt8) (p : Int) : X → Cap → Prop := fun x c' => ∃ m : Mm, smM m ∧ x = MMx m ∧ c' = rdC bs (p + 4)
theorem mmR_on {bs : List UInt8} {p : Int} : ∀ x c', mmR bs p x c' → x.on (fun _ => false) = true ∧ c'.on (fun _ => false) = true := by
  rintro x c' ⟨r, -, rfl, rfl⟩
  exact ⟨rfl, rfl⟩
theorem mmR_ne (bs : List UInt8) (p : Int) : ∃ x c', mmR bs p x c' := ⟨_, _, ⟨[], [], [], []⟩, ⟨by simp, by simp, by simp, by simp⟩, rfl, rfl⟩
/-- Some known clashes; k more of the code read at most. -/
def mlR (bs : List UInt8) (p k : Int) : X → Cap → Prop := fun x c' => ∃ ms : List Mm, (∀ m ∈ ms, smM m) ∧ ms.length ≤ 6 ∧ x = .d (.of mX ms) ∧ ∃ q : Int, p ≤ q ∧ q ≤ p + k ∧ c' = rdC bs q
theorem mlR_on {bs : List UInt8} {p k : Int} : ∀ x c', mlR bs p k x c' → x.on (fun _ => false) = true ∧ c'.on (fun _ => false) = true := by
  rintro x c' ⟨ms, -, -, rfl, q, -, -, rfl⟩
  exact ⟨rfl, rfl⟩
theorem mlR_ne (bs : List UInt8) (p k : Int) (hk : 0 ≤ k) : ∃ x c', mlR bs p k x c' := ⟨_, _, [], by simp, by simp, rfl, p, by omega, by omega, rfl⟩
theorem mmB_nil : mmB [] = true := rfl
theorem resM_ok {ms : List Mm} {m : Mm} (h : mmB ms = true) : mmB (resM ms m) = true := by
  unfold resM
  split
  · assumption
  · exact h
theorem sm_app {ms : List Mm} {m : Mm} (h : ∀ x ∈ ms, smM x) (hm : smM m) : ∀ x ∈ ms ++ [m], smM x := by
  intro x hx
  rcases List.mem_append.1 hx with hx | hx
  · exact h x hx
  · simp at hx; subst hx; exact hm
attribute [local go_sem] List.size_toArray Int.toNat_zero Nat.sub_zero size_mk top_val eq_self datL X.dat u8min u8max i64min i64max stepT gdO aop ev lit litOk putF fzX_false putO upd app List.contains_nil List.elem_nil aBin aInt aStr aBool aLen lenTy aBuiltin aLoad aTake aTakeX aStore splice aSlice aBd look_cons look_nil lookC_cons lookC_nil by_s by_C start_s start_C X.cells X.cell List.all_cons List.all_nil Bool.and_self Bool.not_true Bool.not_false false_implies true_implies forall_const and_true true_and and_self implies_true not_false_eq_true Nat.zero_add Nat.add_zero List.getD_cons_zero List.getD_cons_succ List.map_cons List.map_nil Option.bind_some Option.map_some Option.map_none List.getElem?_cons_zero List.getElem?_cons_succ List.length_cons List.length_nil List.drop_zero List.drop_succ_cons List.take_succ_cons List.take_zero List.cons_append List.nil_append List.append_nil D.of List.length_map all_get_map Option.isSome_some and_false false_and Nat.lt_add_one Nat.zero_lt_succ decide_true decide_false aPart aSl2 Nat.lt_irrefl fzX litEs List.contains_cons List.elem_cons Bool.true_or Bool.or_true Bool.false_or Bool.or_false beq_self_eq_true
section
attribute [local go_sem] tsz9 tsz22 tel22 tel94 iz9 sz22 toNat_cast und9 caps1 sS tsz84 tfld84
theorem l30Short_spec (bs : List UInt8) (p : Int) (hp : 0 ≤ p) (hp2 : p ≤ 100000) : Spec Try.prog 69 [.bx 0 0] [(0, rdC bs p)] 1 (fun x δ => ∃ c', δ = [(0, some c')] ∧ shR bs p x c') := by
  refine Spec.of (fn := Try.f69) Try.func69 rfl (by kernel_rfl) (rs := [.tmp 2]) rfl 2 (by simp [Try.f69]) rfl (by simp [Cap.on, X.onL, X.on, rdC]) ?_
  intro hreal
  rintro ⟨P, T, L0, w0, ι0, C0, U0⟩ hP hT hU
  subst hP hT
  refine st ?_
  all_goals first
  | fail_if_success with_reducible refine atR 0 ?_
  | (
    refine rg 0 [] [some 2] 1 ?_
    all_goals refine qP ?_
    all_goals refine qE ?_)
  all_goals first
  | fail_if_success with_reducible refine atR 1 ?_
  | (
    refine rg 1 [0, 1, 2, 3] [some 3, some 4, some 5, some 6, some 7, some 8, some 9, some 10, some 2] 9 ?_
    all_goals iterate 5 refine qP ?_
    all_goals (
      refine qL_cons ?_
      intro R hR
      refine sm ?_
      refine call_box (pick_spec bs 4 p hp (by omega) (by omega)) rfl rfl pickR_on (pickR_ne _ _ _) (a := 0) (by decide) cl trivial (fun h => h) ?_ ?_
      · exact ⟨.inl rfl, ⟨.inl rfl, trivial⟩⟩
      rintro _ _ ⟨r, rfl, hr0, hr1, rfl⟩
      try refine sm ?_
      all_goals (refine hR _ ?_; clear hR R))
    all_goals (
      refine qL_cons ?_
      intro R hR
      refine sm ?_
      refine ⟨⟨by omega, by omega⟩, ?_⟩
      intro c hc
      obtain ⟨y, hy, rfl⟩ := sh_get hc
      refine ⟨rfl, ?_⟩
      all_goals (refine hR _ ?_; clear hR R))
    all_goals iterate 2 refine qP ?_
    all_goals refine qE ?_)
  all_goals exact ret_box (c1 := rdC bs (p + 1)) [.d (strs y)] ⟨cl, trivial⟩ (fun _ => rfl) cl rfl ⟨_, hy, rfl, rfl⟩

end
section
attribute [local go_sem] tsz9 tsz22 tsz34 tfld34 tel22 tel32 toNat_cast und9 zero34 tz9l iz9 tz34l iz34 aDst aSrc sS MMx tsz84 tfld84 caps1 St.frz X.frz X.frzL Cap.frz
theorem l30Memo_spec (bs : List UInt8) (p : Int) (hp : 0 ≤ p) (hp2 : p ≤ 90000) : Spec Try.prog 38 [.bx 0 0] [(0, rdC bs p)] 1 (fun x δ => ∃ c', δ = [(0, some c')] ∧ mmR bs p x c') := by
  refine Spec.of (fn := Try.f38) Try.func38 rfl (by kernel_rfl) (rs := [.cell 2 34]) rfl 2 (by simp [Try.f38]) rfl (by simp [Cap.on, X.onL, X.on, rdC]) ?_
  intro hreal
  rintro ⟨P, T, L0, w0, ι0, C0, U0⟩ hP hT hU
  subst hP hT
  refine st ?_
  all_goals first
  | fail_if_success with_reducible refine atR 0 ?_
  | (
    refine rg 0 [] [some 2] 1 ?_
    all_goals refine qP ?_
    all_goals refine qE ?_)
  all_goals first
  | fail_if_success with_reducible refine atR 1 ?_
  | (
    refine rg 1 [] [some 4, some 5, some 3] 3 ?_
    all_goals refine qP ?_
    all_goals (
      refine qL_cons ?_
      intro R hR
      refine sm ?_
      refine call_box (l30Short_spec bs (p) (by omega) (by omega)) rfl rfl shR_on (shR_ne _ _) (a := 0) (by decide) cl trivial (fun h => h) ?_ ?_
      · exact ⟨.inl rfl, trivial⟩
      rintro _ _ ⟨s1, hs1, rfl, rfl⟩
      try refine sm ?_
      all_goals (refine hR _ ?_; clear hR R))
    all_goals refine qP ?_
    all_goals refine qE ?_)
  all_goals first
  | fail_if_success with_reducible refine atR 2 ?_
  | (
    refine rg 2 [] [some 6, some 7, some 8, some 9, some 10, some 11, some 12, some 13, none] 9 ?_
    all_goals iterate 2 refine qP ?_
    all_goals (
      refine qL_cons ?_
      intro R hR
      refine sm ?_
      refine call_box (l30Short_spec bs (p + 1) (by omega) (by omega)) rfl rfl shR_on (shR_ne _ _) (a := 0) (by decide) cl trivial (fun h => h) ?_ ?_
      · exact ⟨.inl rfl, trivial⟩
      rintro _ _ ⟨s2, hs2, rfl, rfl⟩
      try refine sm ?_
      all_goals (refine hR _ ?_; clear hR R))
    all_goals refine qP ?_
    all_goals (
      refine qL_cons ?_
      intro R hR
      refine sm ?_
      refine call_box (l30Short_spec bs (p + 1 + 1) (by omega) (by omega)) rfl rfl shR_on (shR_ne _ _) (a := 0) (by decide) cl trivial (fun h => h) ?_ ?_
      · exact ⟨.inl rfl, trivial⟩
      rintro _ _ ⟨s3, hs3, rfl, rfl⟩
      try refine sm ?_
      all_goals (refine hR _ ?_; clear hR R))
    all_goals refine qP ?_
    all_goals (
      refine qL_cons ?_
      intro R hR
      refine sm ?_
      refine call_box (l30Short_spec bs (p + 1 + 1 + 1) (by omega) (by omega)) rfl rfl shR_on (shR_ne _ _) (a := 0) (by decide) cl trivial (fun h => h) ?_ ?_
      · exact ⟨.inl rfl, trivial⟩
      rintro _ _ ⟨s4, hs4, rfl, rfl⟩
      try refine sm ?_
      all_goals (refine hR _ ?_; clear hR R))
    all_goals iterate 2 refine qP ?_
    all_goals refine qE ?_)
  all_goals (
    have e : p + 1 + 1 + 1 + 1 = p + 4 := by omega
    exact ret_box (c1 := rdC bs (p + 1 + 1 + 1 + 1)) [MMx ⟨s1, s2, s3, s4⟩] ⟨cl, trivial⟩ (fun _ => rfl) cl rfl ⟨_, ⟨by simp only; omega, by simp only; omega, by simp only; omega, by simp only; omega⟩, rfl, by rw [e]⟩)

end
section
attribute [local go_sem] tsz9 tsz22 tsz34 tfld34 tel22 tel32 toNat_cast und9 zero34 tz9l iz9 tz34l iz34 aDst aSrc sS MMx tsz84 tfld84 caps1 St.frz X.frz X.frzL Cap.frz
theorem l30Memos_spec (bs : List UInt8) (p : Int) (hp : 0 ≤ p) (hp2 : p ≤ 80000) : Spec Try.prog 37 [.bx 0 0] [(0, rdC bs p)] 1 (fun x δ => ∃ c', δ = [(0, some c')] ∧ mlR bs p 40 x c') := by
  refine Spec.of (fn := Try.f37) Try.func37 rfl (by kernel_rfl) (rs := [.tmp 2]) rfl 2 (by simp [Try.f37]) rfl (by simp [Cap.on, X.onL, X.on, rdC]) ?_
  intro hreal
  rintro ⟨P, T, L0, w0, ι0, C0, U0⟩ hP hT hU
  subst hP hT
  refine st ?_
  all_goals first
  | fail_if_success with_reducible refine atR 0 ?_
  | (
    refine rg 0 [] [some 2] 1 ?_
    all_goals refine qP ?_
    all_goals refine qE ?_)
  all_goals first
  | fail_if_success with_reducible refine atR 1 ?_
  | (
    refine rg 1 [] [some 7, some 3] 2 ?_
    all_goals iterate 2 refine qP ?_
    all_goals refine qE ?_)
  all_goals first
  | fail_if_success with_reducible refine atR 2 ?_
  | (
    refine rg 2 [] [some 8, some 9, some 4] 3 ?_
    all_goals refine qP ?_
    all_goals (
      refine qL_cons ?_
      intro R hR
      refine sm ?_
      refine call_box (pick_spec bs 5 (p) (by omega) (by omega) (by omega)) rfl rfl pickR_on (pickR_ne _ _ _) (a := 0) (by decide) cl trivial (fun h => h) ?_ ?_
      · exact ⟨.inl rfl, ⟨.inl rfl, trivial⟩⟩
      rintro _ _ ⟨r, rfl, r0, r1, rfl⟩
      try refine sm ?_
      all_goals (refine hR _ ?_; clear hR R))
    all_goals refine qP ?_
    all_goals refine qE ?_)
  all_goals first
  | fail_if_success with_reducible refine AW.rounds (α := (Int × List Mm × Int)) ?_ ?_ ?_ ?_ ?_ ?_ ?_ ?_
  | (
    refine AW.rounds (α := (Int × List Mm × Int)) (fun z => 0 ≤ z.1 ∧ z.1 ≤ 5 ∧ p ≤ z.2.2 ∧ z.2.2 + 4 * z.1 ≤ p + 21 ∧ mmB z.2.1 = true) (fun z => St.by [(0, .bx 0 0), (3, .vec 3 4 0 z.2.1.length), (4, .d (.int .i64 z.1))] [(0, rdC bs z.2.2), (3, .vec 34 4 (z.2.1.map mX))]) (fun z => z.1.toNat) 8 (r, [], p + 1) ?_ ?_ ?_
    · exact ⟨by simp only; omega, by simp only; omega, by simp only; omega, by simp only; omega, mmB_nil⟩
    · refine Vw.to [] _ _ (vU hU) ?_ ?_ (by simp [tauL])
      · refine vx (vx (vd (trivial)))
      · exact ⟨⟨by simp, rfl, cl3⟩, ⟨by simp, rfl, cl3⟩, trivial⟩
    · intro z hJ
      refine st ?_
      obtain ⟨hJ1, hJ2, hJ3, hJ4, hJ5⟩ := hJ
      have hl5 := mmB_len hJ5
      all_goals first
      | fail_if_success with_reducible refine atR 3 ?_
      | (
        refine rg 3 [] [some 10, some 11] 2 ?_
        all_goals iterate 2 refine qP ?_
        all_goals refine qE ?_)
      all_goals first
      | fail_if_success with_reducible refine atC 11 ?_
      | (
        refine cn 11 ?_ ?_ <;> intro hc11 <;> try (cases hc11; done)
        all_goals refine st ?_)
      all_goals first
      | fail_if_success with_reducible refine atR 5 ?_
      | (
        refine rg 5 [] [some 15, some 16, some 17, some 18, some 14, some 19, some 20, some 5, some 6] 9 ?_
        all_goals iterate 2 refine qP ?_
        all_goals (
          refine qL_cons ?_
          intro R hR
          refine sm ?_
          refine call_box (l30Memo_spec bs (z.2.2) (by omega) (by omega)) rfl rfl mmR_on (mmR_ne _ _) (a := 0) (by decide) cl trivial (fun h => h) ?_ ?_
          · exact ⟨.inl rfl, trivial⟩
          rintro _ _ ⟨m, hm, rfl, rfl⟩
          try refine sm ?_
          all_goals (refine hR _ ?_; clear hR R))
        all_goals (
          refine qL_cons ?_
          intro R hR
          refine sm ?_
          refine call_o (mk := mpX z.2.1 m) (ty := 34) (k := 4) (es := z.2.1.map mX) (ty' := 34) (k' := 4) (es' := (resM z.2.1 m).map mX) (specMemoPut_own z.2.1 m (by assumption) hm) rfl (fun _ => rfl) (a := 3) (by decide) cl trivial (fun h => h) ?_ ?_
          · exact ⟨.inl rfl, .inl rfl, trivial⟩
          simp only [go_sem, reduceIte, reduceCtorEq, Nat.reduceAdd, Nat.reduceEqDiff, Nat.reduceLeDiff, Nat.reduceLT, Nat.reduceSub, Int.reduceLE, Int.reduceNeg, Int.reduceLT, mpX]
          all_goals (refine hR _ ?_; clear hR R))
        all_goals iterate 5 refine qP ?_
        all_goals refine qE ?_)
      all_goals first
      | fail_if_success with_reducible refine atR 6 ?_
      | (
        refine rg 6 [] [some 21] 1 ?_
        all_goals refine qP ?_
        all_goals refine qE ?_)
      all_goals first
      | fail_if_success with_reducible refine atC 21 ?_
      | (
        refine cn 21 ?_ ?_ <;> intro hc21 <;> try (cases hc21; done)
        all_goals refine st ?_)
      all_goals first
      | fail_if_success with_reducible refine atR 7 ?_
      | (
        refine rg 7 [] [some 22, some 3] 2 ?_
        all_goals iterate 2 refine qP ?_
        all_goals refine qE ?_)
      all_goals first
      | fail_if_success with_reducible refine atR 4 ?_
      | (
        refine rg 4 [] [some 12, some 13, some 4] 3 ?_
        all_goals refine qP ?_
        all_goals (
          refine qL_cons ?_
          intro R hR
          refine sm ?_
          rw [wrap64 (by omega) (by omega)]
          all_goals (refine hR _ ?_; clear hR R))
        all_goals refine qP ?_
        all_goals refine qE ?_)
      all_goals first
      | fail_if_success with_reducible refine ⟨(z.1 - 1, z.2.1, z.2.2), ?_, ?_, ?_⟩
      | (
          have hq : True := trivial
          refine ⟨(z.1 - 1, resM z.2.1 m, z.2.2 + 4), ?_, ?_, ?_⟩
          · refine ⟨by simp only; omega, by simp only; omega, by simp only; omega, by simp only; omega, ?_⟩
            first
            | exact hJ5
            | exact resM_ok hJ5
          · simp only; omega
          · refine Vw.to [(3, 13)] _ _ (fun n hn => by have := hU n hn; have h0 : n = 0 := (by omega); subst h0; exact ⟨by decide, rfl⟩) ?_ ?_ (by simp [tauL])
            · exact vx (vx (vd trivial))
            · exact ⟨⟨by simp, rfl, cl3⟩, ⟨by simp, rfl, cl4⟩, trivial⟩)
      | (
          have hq : True := trivial
          refine ⟨(z.1 - 1, z.2.1, z.2.2 + 4), ?_, ?_, ?_⟩
          · refine ⟨by simp only; omega, by simp only; omega, by simp only; omega, by simp only; omega, ?_⟩
            first
            | exact hJ5
            | exact resM_ok hJ5
          · simp only; omega
          · refine Vw.to [] _ _ (fun n hn => by have := hU n hn; have h0 : n = 0 := (by omega); subst h0; exact ⟨by decide, rfl⟩) ?_ ?_ (by simp [tauL])
            · exact vx (vx (vd trivial))
            · exact ⟨⟨by simp, rfl, cl3⟩, ⟨by simp, rfl, cl4⟩, trivial⟩)
      all_goals first
      | fail_if_success with_reducible refine atR 8 ?_
      | (
        refine rg 8 [] [some 23, some 24, some 25] 3 ?_
        all_goals refine qP ?_
        all_goals (
          refine qL_cons ?_
          intro R hR
          refine sm ?_
          refine call_box (pick_spec bs 14 (z.2.2) (by omega) (by omega) (by omega)) rfl rfl pickR_on (pickR_ne _ _ _) (a := 0) (by decide) cl trivial (fun h => h) ?_ ?_
          · exact ⟨.inl rfl, ⟨.inl rfl, trivial⟩⟩
          rintro _ _ ⟨r2, rfl, r20, r21, rfl⟩
          try refine sm ?_
          all_goals (refine hR _ ?_; clear hR R))
        all_goals refine qP ?_
        all_goals refine qE ?_)
      all_goals first
      | fail_if_success with_reducible refine atC 25 ?_
      | (
        refine cn 25 ?_ ?_ <;> intro hc25 <;> try (cases hc25; done)
        all_goals refine st ?_)
      all_goals first
      | fail_if_success with_reducible refine atR 9 ?_
      | (
        refine rg 9 [3] [some 26, some 27, some 28, some 29, some 30, some 2] 6 ?_
        all_goals iterate 2 refine qP ?_
        all_goals (
          refine qL_cons ?_
          intro R hR
          refine sm ?_
          refine call_box (l30Memo_spec bs (z.2.2 + 1) (by omega) (by omega)) rfl rfl mmR_on (mmR_ne _ _) (a := 0) (by decide) cl trivial (fun h => h) ?_ ?_
          · exact ⟨.inl rfl, trivial⟩
          rintro _ _ ⟨m, hm, rfl, rfl⟩
          try refine sm ?_
          all_goals (refine hR _ ?_; clear hR R))
        all_goals refine qP ?_
        all_goals (
          refine qL_cons ?_
          intro R hR
          refine sm ?_
          refine ⟨by simp, by omega, ?_⟩
          all_goals (refine hR _ ?_; clear hR R))
        all_goals refine qP ?_
        all_goals refine qE ?_)
      all_goals first
      | fail_if_success with_reducible refine atR 10 ?_
      | (
        refine rg 10 [] [some 31, some 2] 2 ?_
        all_goals iterate 2 refine qP ?_
        all_goals refine qE ?_)
      all_goals first
      | exact ret_boxV (R := mlR bs p 40) (c1 := rdC bs (z.2.2 + 1)) (Vw.frz (ty := 34) 3 4 (z.2.1.map mX) cl) [.d (.of mX z.2.1)] ⟨cl, trivial⟩ (fun _ => rfl) cl rfl ⟨_, mmB_sm hJ5, by have := mmB_len hJ5; omega, rfl, _, by omega, by omega, rfl⟩
      | (
        have hl5 := mmB_len hJ5
        refine ret_boxV (R := mlR bs p 40) (c1 := rdC bs (z.2.2 + 1 + 4)) (Vw.frz (ty := 34) 17 4 ((z.2.1 ++ [m]).map mX) ?_) [.d (.of mX (z.2.1 ++ [m]))] ⟨?_, trivial⟩ (fun _ => rfl) ?_ rfl ⟨_, sm_app (mmB_sm hJ5) hm, by simp; omega, rfl, _, by omega, by omega, rfl⟩
        · refine sm ?_
          simp [mX, strs, D.of]
        · refine sm ?_
          simp [mX, strs, D.of]
        · exact cl))
  all_goals first
  | exact ret_boxV (R := mlR bs p 40) (c1 := rdC bs (z.2.2 + 1)) (Vw.frz (ty := 34) 3 4 (z.2.1.map mX) cl) [.d (.of mX z.2.1)] ⟨cl, trivial⟩ (fun _ => rfl) cl rfl ⟨_, mmB_sm hJ5, by have := mmB_len hJ5; omega, rfl, _, by omega, by omega, rfl⟩
  | (
    have hl5 := mmB_len hJ5
    refine ret_boxV (R := mlR bs p 40) (c1 := rdC bs (z.2.2 + 1 + 4)) (Vw.frz (ty := 34) 17 4 ((z.2.1 ++ [m]).map mX) ?_) [.d (.of mX (z.2.1 ++ [m]))] ⟨?_, trivial⟩ (fun _ => rfl) ?_ rfl ⟨_, sm_app (mmB_sm hJ5) hm, by simp; omega, rfl, _, by omega, by omega, rfl⟩
    · refine sm ?_
      simp [mX, strs, D.of]
    · refine sm ?_
      simp [mX, strs, D.of]
    · exact cl)

end
section
attribute [local go_sem] tsz9 tsz22 tsz34 tfld34 tel22 tel32 toNat_cast und9 zero34 tz9l iz9 tz34l iz34 aDst aSrc sS MMx tsz84 tfld84 caps1 St.frz X.frz X.frzL Cap.frz
theorem DrawMemoPut_spec (bs : List UInt8) : FunE Try.prog 13 [.d (.of bX bs)] (fun x => ∃ ms : List Mm, ∃ m : Mm, (∀ m ∈ ms, smM m) ∧ ms.length ≤ 6 ∧ smM m ∧ x = .tup [.d (.of mX ms), MMx m]) := by
  refine FunE.of ?_ rfl (by rintro x ⟨ms, m, -, -, -, rfl⟩; rfl)
  refine Spec.of (fn := Try.f13) Try.func13 rfl (by kernel_rfl) (rs := [.tmp 2, .cell 3 34]) rfl 1 (by simp [Try.f13]) rfl (by simp) ?_
  intro hreal
  rintro ⟨P, T, L0, w0, ι0, C0, U0⟩ hP hT hU
  subst hP hT
  refine st ?_
  all_goals first
  | fail_if_success with_reducible refine atR 0 ?_
  | (
    refine rg 0 [] [some 2, some 3] 2 ?_
    all_goals iterate 2 refine qP ?_
    all_goals refine qE ?_)
  all_goals first
  | fail_if_success with_reducible refine atR 1 ?_
  | (
    refine rg 1 [] [some 6, some 7, some 4] 3 ?_
    all_goals refine qP ?_
    all_goals (
      refine qL_cons ?_
      intro R hR
      refine sm ?_
      refine call_new (l30Open_spec bs) ?_ ?_
      · exact ⟨.inl rfl, trivial⟩
      refine sm ?_
      all_goals (refine hR _ ?_; clear hR R))
    all_goals refine qP ?_
    all_goals refine qE ?_)
  all_goals first
  | fail_if_success with_reducible refine atR 2 ?_
  | (
    refine rg 2 [] [some 8, some 9, some 5] 3 ?_
    all_goals refine qP ?_
    all_goals (
      refine qL_cons ?_
      intro R hR
      refine sm ?_
      refine call_box (l30Memos_spec (cutB bs) 0 (by omega) (by omega)) rfl rfl mlR_on (mlR_ne _ _ _ (by omega)) (a := 4) (by decide) cl trivial (fun h => h) ?_ ?_
      · exact ⟨.inl rfl, trivial⟩
      rintro _ _ ⟨ms, hms, hml, rfl, q, hq1, hq2, rfl⟩
      try refine sm ?_
      all_goals (refine hR _ ?_; clear hR R))
    all_goals refine qP ?_
    all_goals refine qE ?_)
  all_goals first
  | fail_if_success with_reducible refine atR 3 ?_
  | (
    refine rg 3 [] [some 10, some 11, some 12, some 2, none] 5 ?_
    all_goals iterate 2 refine qP ?_
    all_goals (
      refine qL_cons ?_
      intro R hR
      refine sm ?_
      refine call_box (l30Memo_spec (cutB bs) q (by omega) (by omega)) rfl rfl mmR_on (mmR_ne _ _) (a := 4) (by decide) cl trivial (fun h => h) ?_ ?_
      · exact ⟨.inl rfl, trivial⟩
      rintro _ _ ⟨m, hm, rfl, rfl⟩
      try refine sm ?_
      all_goals (refine hR _ ?_; clear hR R))
    all_goals iterate 2 refine qP ?_
    all_goals refine qE ?_)
  all_goals exact ⟨_, _, Vw.refl _ _ _, [], [.d (.of mX ms), MMx m], fun n hn => by simp at hn, ⟨cl, cl, trivial⟩, rfl, ⟨ms, m, hms, hml, hm, rfl⟩, rfl⟩

end
end Go.Proofs.Ytmlbdicaeefomaa
namespace Go.Proofs.Ytmlbdicaeefomaa
open Go Go.RowKit
set_option maxRecDepth 100000
set_option maxHeartbeats 4000000
set_option linter.unusedSimpArgs false
set_option linter.unusedVariables false
theorem get_use {α : Type} {l : List α} {i : Nat} {x : α} {Φ : α → Prop} (hx : l[i]? = some x) (h : Φ x) : ∀ z, l[i]? = some z → Φ z := by
  intro z hz
  rw [hx] at hz
  cases hz
  exact h
theorem Mm_ext {a b : Mm} (h1 : a.old = b.old) (h2 : a.one = b.one) (h3 : a.two = b.two) (h4 : a.done = b.done) : a = b := by
  cases a; cases b; simp_all
instance instMm : DecidableEq Mm := fun a b =>
  if h : a.old = b.old ∧ a.one = b.one ∧ a.two = b.two ∧ a.done = b.done then isTrue (Mm_ext h.1 h.2.1 h.2.2.1 h.2.2.2)
  else isFalse (fun e => h (by subst e; simp))
/-- What MemoPut answers. -/
def mpL (ms : List Mm) (m : Mm) : List Mm := if mmB ms then resM ms m else []
def mpO (ms : List Mm) (m : Mm) : Bool := mmB ms && mmB (mgM ms m)
/-- The same clash, the other side first. -/
def swM (m : Mm) : Mm := ⟨m.old, m.two, m.one, m.done⟩
theorem mpD_eq (ms : List Mm) (m : Mm) : mpD ms m = .tup [.d (.of mX (mpL ms m)), .d (.bool (mpO ms m))] := rfl
theorem mp_ok {ms : List Mm} {m : Mm} (h : mpO ms m = true) : mmB ms = true ∧ mpL ms m = mgM ms m ∧ mmB (mpL ms m) = true := by
  simp only [mpO, Bool.and_eq_true] at h
  have : mpL ms m = mgM ms m := by simp [mpL, resM, h.1, h.2]
  exact ⟨h.1, this, by rw [this]; exact h.2⟩
theorem mp_not {ms : List Mm} {m : Mm} (h : mmB ms = true) (h2 : mpO ms m = false) : mpL ms m = ms := by
  have : mmB (mgM ms m) = false := by simpa [mpO, h] using h2
  simp [mpL, resM, h, this]
theorem same_self (m : Mm) : sameB m.old m.one m.two m = true := same_of ⟨rfl, .inl ⟨rfl, rfl⟩⟩
theorem filt2 (l : List Mm) (p : Mm → Bool) : (l.filter p).filter p = l.filter p := by
  rw [List.filter_eq_self]
  intro a ha
  exact (List.mem_filter.1 ha).2
theorem mg_mg (ms : List Mm) (m : Mm) : mgM (mgM ms m) m = mgM ms m := by
  simp only [mgM, List.filter_append, filt2, List.filter_cons, same_self, Bool.not_true, Bool.false_eq_true, if_false, List.filter_nil, List.append_nil]
theorem same_sw (m x : Mm) : sameB (swM m).old (swM m).one (swM m).two x = sameB m.old m.one m.two x := by
  show (decide (m.old = x.old) && ((decide (m.two = x.one) && decide (m.one = x.two)) || (decide (m.two = x.two) && decide (m.one = x.one)))) = (decide (m.old = x.old) && ((decide (m.one = x.one) && decide (m.two = x.two)) || (decide (m.one = x.two) && decide (m.two = x.one))))
  cases decide (m.old = x.old) <;> cases decide (m.two = x.one) <;> cases decide (m.one = x.two) <;> cases decide (m.two = x.two) <;> cases decide (m.one = x.one) <;> rfl
theorem mg_sw (ms : List Mm) (m : Mm) : mgM (mgM ms m) (swM m) = ms.filter (fun x => !sameB m.old m.one m.two x) ++ [swM m] := by
  simp only [mgM, same_sw, List.filter_append, filt2, List.filter_cons, same_self, Bool.not_true, Bool.false_eq_true, if_false, List.filter_nil, List.append_nil]
theorem mm_last {l : List Mm} {m : Mm} (h : mmB (l ++ [m]) = true) : mmB (l ++ [swM m]) = true := by
  simp only [mmB, Bool.and_eq_true, List.all_eq_true, List.mem_range, decide_eq_true_eq, List.length_append, List.length_cons, List.length_nil] at h ⊢
  refine ⟨fun i hi => ?_, h.2⟩
  have hh := h.1 i hi
  by_cases hl : i < l.length
  · simpa only [okM, List.getElem?_append_left hl, List.take_append_of_le_length (Nat.le_of_lt hl)] using hh
  · have hil : i = l.length := by omega
    subst hil
    simp only [okM, List.getElem?_append_right (Nat.le_refl _), Nat.sub_self, List.getElem?_cons_zero, List.take_left', Bool.and_eq_true, Bool.not_eq_true'] at hh ⊢
    obtain ⟨⟨⟨⟨⟨a1, a2⟩, a3⟩, a4⟩, a5⟩, a6⟩ := hh
    refine ⟨⟨⟨⟨⟨a1, a3⟩, a2⟩, a4⟩, ?_⟩, ?_⟩
    · simp only [decide_eq_false_iff_not] at a5 ⊢
      exact fun e => a5 e.symm
    · rw [← a6]
      congr 1
      funext x
      exact same_sw m x
theorem mp_again {ms : List Mm} {m : Mm} (h : mpO ms m = true) : mpO (mpL ms m) m = true ∧ mpL (mpL ms m) m = mpL ms m := by
  obtain ⟨h1, h2, h3⟩ := mp_ok h
  have e : mgM (mpL ms m) m = mpL ms m := by rw [h2, mg_mg]
  have : mpO (mpL ms m) m = true := by simp [mpO, h3, e]
  exact ⟨this, by rw [(mp_ok this).2.1, e]⟩
theorem mp_swap {ms : List Mm} {m : Mm} (h : mpO ms m = true) : mpO (mpL ms m) (swM m) = true ∧ (mpL (mpL ms m) (swM m)).length = (mpL ms m).length := by
  obtain ⟨h1, h2, h3⟩ := mp_ok h
  have e : mgM (mpL ms m) (swM m) = ms.filter (fun x => !sameB m.old m.one m.two x) ++ [swM m] := by rw [h2, mg_sw]
  have h4 : mmB (ms.filter (fun x => !sameB m.old m.one m.two x) ++ [swM m]) = true := mm_last (by rw [h2] at h3; exact h3)
  have : mpO (mpL ms m) (swM m) = true := by simp only [mpO, h3, e, h4, Bool.and_self]
  refine ⟨this, ?_⟩
  rw [(mp_ok this).2.1, e, h2]
  simp [mgM]
theorem sm_sw {m : Mm} (h : smM m) : smM (swM m) := ⟨h.1, h.2.2.1, h.2.1, h.2.2.2⟩
attribute [local go_sem] List.size_toArray Int.toNat_zero Nat.sub_zero size_mk top_val eq_self datL X.dat u8min u8max i64min i64max stepT gdO aop ev lit litOk putF fzX_false putO upd app List.contains_nil List.elem_nil aBin aInt aStr aBool aLen lenTy aBuiltin aLoad aTake aTakeX aStore splice aSlice aBd look_cons look_nil lookC_cons lookC_nil by_s by_C start_s start_C X.cells X.cell List.all_cons List.all_nil Bool.and_self Bool.not_true Bool.not_false false_implies true_implies forall_const and_true true_and and_self implies_true not_false_eq_true Nat.zero_add Nat.add_zero List.getD_cons_zero List.getD_cons_succ List.map_cons List.map_nil Option.bind_some Option.map_some Option.map_none List.getElem?_cons_zero List.getElem?_cons_succ List.length_cons List.length_nil List.drop_zero List.drop_succ_cons List.take_succ_cons List.take_zero List.cons_append List.nil_append List.append_nil D.of List.length_map all_get_map Option.isSome_some and_false false_and Nat.lt_add_one Nat.zero_lt_succ decide_true decide_false aPart aSl2 Nat.lt_irrefl fzX litEs List.contains_cons List.elem_cons Bool.true_or Bool.or_true Bool.false_or Bool.or_false beq_self_eq_true
section
attribute [local go_sem] tsz9 tsz22 tsz34 tfld34 tel22 tel32 toNat_cast und9 und4 sS
theorem smMemos_spec (a b : List Mm) : Fun Try.prog 16 [.d (.of mX a), .d (.of mX b)] (.d (.bool (decide (a = b)))) := by
  refine Fun.of ?_ rfl rfl
  refine Spec.of (fn := Try.f16) Try.func16 rfl (by kernel_rfl) (rs := [.tmp 4]) rfl 1 (by simp [Try.f16]) rfl (by simp) ?_
  intro hreal
  rintro ⟨P, T, L0, w0, ι0, C0, U0⟩ hP hT hU
  subst hP hT
  refine st ?_
  have hla : a.length ≤ 9223372036854775807 := by simpa using D.real_len (X.real_d (hreal (.d (.of mX a)) (by simp)) : D.real (.sl (a.map mX)))
  all_goals first
  | fail_if_success with_reducible refine atR 0 ?_
  | (
    refine rg 0 [] [some 4] 1 ?_
    all_goals refine qP ?_
    all_goals refine qE ?_)
  all_goals first
  | fail_if_success with_reducible refine atR 1 ?_
  | (
    refine rg 1 [] [some 6, some 7, some 8, some 9, some 10] 5 ?_
    all_goals iterate 5 refine qP ?_
    all_goals refine qE ?_)
  all_goals first
  | fail_if_success with_reducible refine atC 10 ?_
  | (
    refine cn 10 ?_ ?_ <;> intro hc10 <;> try (cases hc10; done)
    all_goals refine st ?_)
  all_goals first
  | fail_if_success with_reducible refine atR 2 ?_
  | (
    refine rg 2 [] [some 4] 1 ?_
    all_goals refine qP ?_
    all_goals refine qE ?_)
  all_goals first
  | fail_if_success with_reducible refine atR 3 ?_
  | (
    refine rg 3 [] [some 5] 1 ?_
    all_goals refine qP ?_
    all_goals refine qE ?_)
  all_goals first
  | fail_if_success with_reducible refine AW.rounds (α := Nat) ?_ ?_ ?_ ?_ ?_ ?_ ?_ ?_
  | (
    refine AW.rounds (α := Nat) (fun i => i ≤ a.length ∧ a.length = b.length ∧ ∀ j, j < i → a[j]? = b[j]?) (fun i => St.by [(0, .d (.of mX a)), (1, .d (.of mX b)), (5, .d (.int .i64 i))] []) (fun i => a.length - i) 1 0 ?_ ?_ ?_
    · exact ⟨by omega, by omega, fun j hj => by omega⟩
    · refine Vw.to [] _ _ (vU hU) ?_ ?_ (by simp [tauL])
      · refine vd (vd (vw_d ?_ (trivial)))
        · first
          | exact cl2
          | (
            refine sm2 ?_
            all_goals (
             rfl))
      · trivial
    · intro i hJ
      refine st ?_
      obtain ⟨hJ1, hJ2, hJ3⟩ := hJ
      all_goals first
      | fail_if_success with_reducible refine atR 4 ?_
      | (
        refine rg 4 [] [some 11, some 12, some 13, some 14] 4 ?_
        all_goals iterate 4 refine qP ?_
        all_goals refine qE ?_)
      all_goals first
      | fail_if_success with_reducible refine atC 14 ?_
      | (
        refine cn 14 ?_ ?_ <;> intro hc14 <;> try (cases hc14; done)
        all_goals refine st ?_)
      all_goals first
      | fail_if_success with_reducible refine atR 6 ?_
      | (
        refine rgD 6 [] [some 17, some 18, some 19, some 20, some 21, some 22, some 23, some 24, some 25, some 26, some 27, some 28, some 29, some 30, some 31, some 32, some 33, some 34, some 35, some 36, some 37, some 38, some 39, some 40, some 41, some 42, some 43, some 44, some 45, some 46, some 47, some 48, some 49, some 50, some 51, some 52, some 53, some 54, some 55, some 56, some 57, some 58, some 59, some 60, some 61, some 62, some 63, some 64, some 65, some 66, some 67, some 68, some 69, some 70] 54 9 ?_
        intro av hav
        all_goals iterate 2 refine qP ?_
        all_goals (
          refine qL_cons ?_
          intro R hR
          refine sm ?_
          refine ⟨⟨by omega, by omega⟩, ?_⟩
          intro x hx
          simp only [go_sem, reduceIte, reduceCtorEq, Nat.reduceAdd, Nat.reduceEqDiff, Nat.reduceLeDiff, Nat.reduceLT, Nat.reduceSub, Int.reduceLE, Int.reduceNeg, Int.reduceLT, mX]
          all_goals (refine hR _ ?_; clear hR R))
        all_goals iterate 4 refine qP ?_
        all_goals (
          refine qL_cons ?_
          intro R hR
          refine sm ?_
          refine ⟨⟨by omega, by omega⟩, ?_⟩
          intro y hy
          simp only [go_sem, reduceIte, reduceCtorEq, Nat.reduceAdd, Nat.reduceEqDiff, Nat.reduceLeDiff, Nat.reduceLT, Nat.reduceSub, Int.reduceLE, Int.reduceNeg, Int.reduceLT, mX]
          all_goals (refine hR _ ?_; clear hR R))
        all_goals iterate 2 refine qP ?_
        all_goals (
          refine qL_cons ?_
          intro R hR
          refine sm ?_
          refine call_fun (smTexts_spec x.old y.old) [] ?_ (.inl rfl) ?_
          · exact ⟨.inl rfl, ⟨.inl rfl, trivial⟩⟩
          refine sm ?_
          all_goals (refine hR _ ?_; clear hR R))
        all_goals iterate 2 refine qP ?_
        all_goals first | refine qU 29 ?_ | (refine qS 29 ?_ ?_ <;> intro hg6_12 <;> try (cases hg6_12; done))
        all_goals iterate 2 refine qP ?_
        all_goals first
        | (
          refine qL_cons ?_
          intro R hR
          refine sm ?_
          refine ⟨⟨by omega, by omega⟩, ?_⟩
          refine get_use hx ?_
          simp only [go_sem, reduceIte, reduceCtorEq, Nat.reduceAdd, Nat.reduceEqDiff, Nat.reduceLeDiff, Nat.reduceLT, Nat.reduceSub, Int.reduceLE, Int.reduceNeg, Int.reduceLT, mX]
          refine hR _ ?_
          clear hR R)
        | refine qP ?_
        all_goals iterate 4 refine qP ?_
        all_goals first
        | (
          refine qL_cons ?_
          intro R hR
          refine sm ?_
          refine ⟨⟨by omega, by omega⟩, ?_⟩
          refine get_use hy ?_
          simp only [go_sem, reduceIte, reduceCtorEq, Nat.reduceAdd, Nat.reduceEqDiff, Nat.reduceLeDiff, Nat.reduceLT, Nat.reduceSub, Int.reduceLE, Int.reduceNeg, Int.reduceLT, mX]
          refine hR _ ?_
          clear hR R)
        | refine qP ?_
        all_goals iterate 2 refine qP ?_
        all_goals first
        | (
          refine qL_cons ?_
          intro R hR
          refine sm ?_
          refine call_fun (smTexts_spec x.one y.one) [] ?_ (.inl rfl) ?_
          · exact ⟨.inl rfl, ⟨.inl rfl, trivial⟩⟩
          refine sm ?_
          refine hR _ ?_
          clear hR R)
        | refine qP ?_
        all_goals iterate 3 refine qP ?_
        all_goals first | refine qU 43 ?_ | (refine qS 43 ?_ ?_ <;> intro hg6_26 <;> try (cases hg6_26; done))
        all_goals iterate 2 refine qP ?_
        all_goals first
        | (
          refine qL_cons ?_
          intro R hR
          refine sm ?_
          refine ⟨⟨by omega, by omega⟩, ?_⟩
          refine get_use hx ?_
          simp only [go_sem, reduceIte, reduceCtorEq, Nat.reduceAdd, Nat.reduceEqDiff, Nat.reduceLeDiff, Nat.reduceLT, Nat.reduceSub, Int.reduceLE, Int.reduceNeg, Int.reduceLT, mX]
          refine hR _ ?_
          clear hR R)
        | refine qP ?_
        all_goals iterate 4 refine qP ?_
        all_goals first
        | (
          refine qL_cons ?_
          intro R hR
          refine sm ?_
          refine ⟨⟨by omega, by omega⟩, ?_⟩
          refine get_use hy ?_
          simp only [go_sem, reduceIte, reduceCtorEq, Nat.reduceAdd, Nat.reduceEqDiff, Nat.reduceLeDiff, Nat.reduceLT, Nat.reduceSub, Int.reduceLE, Int.reduceNeg, Int.reduceLT, mX]
          refine hR _ ?_
          clear hR R)
        | refine qP ?_
        all_goals iterate 2 refine qP ?_
        all_goals first
        | (
          refine qL_cons ?_
          intro R hR
          refine sm ?_
          refine call_fun (smTexts_spec x.two y.two) [] ?_ (.inl rfl) ?_
          · exact ⟨.inl rfl, ⟨.inl rfl, trivial⟩⟩
          refine sm ?_
          refine hR _ ?_
          clear hR R)
        | refine qP ?_
        all_goals iterate 3 refine qP ?_
        all_goals first | refine qU 57 ?_ | (refine qS 57 ?_ ?_ <;> intro hg6_40 <;> try (cases hg6_40; done))
        all_goals iterate 2 refine qP ?_
        all_goals first
        | (
          refine qL_cons ?_
          intro R hR
          refine sm ?_
          refine ⟨⟨by omega, by omega⟩, ?_⟩
          refine get_use hx ?_
          simp only [go_sem, reduceIte, reduceCtorEq, Nat.reduceAdd, Nat.reduceEqDiff, Nat.reduceLeDiff, Nat.reduceLT, Nat.reduceSub, Int.reduceLE, Int.reduceNeg, Int.reduceLT, mX]
          refine hR _ ?_
          clear hR R)
        | refine qP ?_
        all_goals iterate 4 refine qP ?_
        all_goals first
        | (
          refine qL_cons ?_
          intro R hR
          refine sm ?_
          refine ⟨⟨by omega, by omega⟩, ?_⟩
          refine get_use hy ?_
          simp only [go_sem, reduceIte, reduceCtorEq, Nat.reduceAdd, Nat.reduceEqDiff, Nat.reduceLeDiff, Nat.reduceLT, Nat.reduceSub, Int.reduceLE, Int.reduceNeg, Int.reduceLT, mX]
          refine hR _ ?_
          clear hR R)
        | refine qP ?_
        all_goals iterate 2 refine qP ?_
        all_goals first
        | (
          refine qL_cons ?_
          intro R hR
          refine sm ?_
          refine call_fun (smTexts_spec x.done y.done) [] ?_ (.inl rfl) ?_
          · exact ⟨.inl rfl, ⟨.inl rfl, trivial⟩⟩
          refine sm ?_
          refine hR _ ?_
          clear hR R)
        | refine qP ?_
        all_goals iterate 2 refine qP ?_
        all_goals refine qE ?_
        all_goals clear  hav av)
      all_goals first
      | fail_if_success with_reducible refine atC 70 ?_
      | (
        refine cn 70 ?_ ?_ <;> intro hc70 <;> try (cases hc70; done)
        all_goals refine st ?_)
      all_goals first
      | fail_if_success with_reducible refine atR 7 ?_
      | (
        refine rg 7 [] [some 4] 1 ?_
        all_goals refine qP ?_
        all_goals refine qE ?_)
      all_goals first
      | fail_if_success with_reducible refine atR 5 ?_
      | (
        refine rg 5 [] [some 15, some 16, some 5] 3 ?_
        all_goals refine qP ?_
        all_goals (
          refine qL_cons ?_
          intro R hR
          refine sm ?_
          rw [wrap64 (by omega) (by omega)]
          all_goals (refine hR _ ?_; clear hR R))
        all_goals refine qP ?_
        all_goals refine qE ?_)
      all_goals first
      | fail_if_success with_reducible refine ⟨i + 1, ?_, ?_, ?_⟩
      | (
        refine ⟨i + 1, ?_, ?_, ?_⟩
        · refine ⟨by omega, hJ2, fun j hj => ?_⟩
          by_cases hji : j = i
          · subst hji
            rw [hx, hy]
            refine congrArg some (Mm_ext ?_ ?_ ?_ ?_) <;> simp_all
          · exact hJ3 j (by omega)
        · omega
        · refine Vw.to [] _ _ (vU hU) ?_ ?_ (by simp [tauL])
          · refine vd (vd (vw_d ?_ (trivial)))
            · first
              | exact cl2
              | (
                refine sm2 ?_
                all_goals (
                 congr 1))
          · trivial)
      all_goals first
      | fail_if_success with_reducible refine atR 8 ?_
      | (
        refine rg 8 [] [some 4] 1 ?_
        all_goals refine qP ?_
        all_goals refine qE ?_)
      all_goals first
      | fail_if_success with_reducible refine ret_fun (t := 4) ?_ ?_
      | (
        refine ret_fun (t := 4) ?_ (fun _ => rfl)
        first
        | exact cl
        | (
          try refine sm ?_
          all_goals (
           first
           | (congr 2; symm; rw [decide_eq_false_iff_not]; intro hab; rw [hab] at hx; have hxy := Option.some.inj (hx.symm.trans hy); rw [hxy] at *; simp_all; done)
           | (congr 2; symm; rw [decide_eq_false_iff_not]; intro hab; rw [hab] at hc10; simp at hc10; done)
           | (congr 2; symm; rw [decide_eq_true_eq]; apply List.ext_getElem?; intro j; by_cases hj : j < i
              · exact hJ3 j hj
              · rw [List.getElem?_eq_none (by omega), List.getElem?_eq_none (by omega)])))))
  all_goals first
  | fail_if_success with_reducible refine ret_fun (t := 4) ?_ ?_
  | (
    refine ret_fun (t := 4) ?_ (fun _ => rfl)
    first
    | exact cl
    | (
      try refine sm ?_
      all_goals (
       first
       | (congr 2; symm; rw [decide_eq_false_iff_not]; intro hab; rw [hab] at hx; have hxy := Option.some.inj (hx.symm.trans hy); rw [hxy] at *; simp_all; done)
       | (congr 2; symm; rw [decide_eq_false_iff_not]; intro hab; rw [hab] at hc10; simp at hc10; done)
       | (congr 2; symm; rw [decide_eq_true_eq]; apply List.ext_getElem?; intro j; by_cases hj : j < i
          · exact hJ3 j hj
          · rw [List.getElem?_eq_none (by omega), List.getElem?_eq_none (by omega)]))))

end
section
attribute [local go_sem] tsz9 tsz22 tsz34 tfld34 tel22 tel32 toNat_cast und9 und4 sS tsz31 tel31 tsz32 zero34 tz34l iz34 MMx mpD_eq
theorem memoPut_law (bs : List UInt8) : Fun Try.prog 4 [.d (.of bX bs)] (.d (.bool true)) := by
  refine Fun.of ?_ rfl rfl
  refine Spec.of (fn := Try.f4) Try.func4 rfl (by kernel_rfl) (rs := [.tmp 2]) rfl 1 (by simp [Try.f4]) rfl (by simp) ?_
  intro hreal
  rintro ⟨P, T, L0, w0, ι0, C0, U0⟩ hP hT hU
  subst hP hT
  refine st ?_
  all_goals first
  | fail_if_success with_reducible refine atR 0 ?_
  | (
    refine rg 0 [] [some 2] 1 ?_
    all_goals refine qP ?_
    all_goals refine qE ?_)
  all_goals first
  | fail_if_success with_reducible refine atR 1 ?_
  | (
    refine rg 1 [] [some 14, some 15, some 16] 3 ?_
    all_goals iterate 3 refine qP ?_
    all_goals refine qE ?_)
  all_goals first
  | fail_if_success with_reducible refine atC 16 ?_
  | (
    refine cn 16 ?_ ?_ <;> intro hc16 <;> try (cases hc16; done)
    all_goals refine st ?_)
  all_goals first
  | fail_if_success with_reducible refine atR 2 ?_
  | (
    refine rg 2 [] [some 2] 1 ?_
    all_goals refine qP ?_
    all_goals refine qE ?_)
  all_goals first
  | fail_if_success with_reducible refine atR 3 ?_
  | (
    refine rg 3 [] [some 18, some 19, some 17, some 20, some 21, some 4, some 3, none] 8 ?_
    all_goals refine qP ?_
    all_goals (
      refine qL_cons ?_
      intro R hR
      refine sm ?_
      refine call_ex (DrawMemoPut_spec bs) ⟨_, [], ⟨[], [], [], []⟩, by simp, by simp, ⟨by simp, by simp, by simp, by simp⟩, rfl⟩ ?_ ?_
      · exact ⟨.inl rfl, trivial⟩
      rintro _ ⟨ms, m, hms, hml, hm, rfl⟩
      refine sm ?_
      all_goals (refine hR _ ?_; clear hR R))
    all_goals iterate 6 refine qP ?_
    all_goals refine qE ?_)
  all_goals first
  | fail_if_success with_reducible refine atR 4 ?_
  | (
    refine rg 4 [] [some 23, some 24, some 25, some 22, some 26, some 27, some 5, some 6] 8 ?_
    all_goals iterate 2 refine qP ?_
    all_goals (
      refine qL_cons ?_
      intro R hR
      refine sm ?_
      refine call_fun (implMemoPut (ms) (m) hm) [] ?_ (.inl rfl) ?_
      · exact ⟨.inl rfl, ⟨.inl rfl, trivial⟩⟩
      refine sm ?_
      all_goals (refine hR _ ?_; clear hR R))
    all_goals iterate 5 refine qP ?_
    all_goals refine qE ?_)
  all_goals first
  | fail_if_success with_reducible refine atR 5 ?_
  | (
    refine rg 5 [] [some 29, some 30, some 31, some 28, some 32, some 33, some 7, some 8] 8 ?_
    all_goals iterate 2 refine qP ?_
    all_goals (
      refine qL_cons ?_
      intro R hR
      refine sm ?_
      refine call_fun (specMemoPut (ms) (m) hm) [] ?_ (.inl rfl) ?_
      · exact ⟨.inl rfl, ⟨.inl rfl, trivial⟩⟩
      refine sm ?_
      all_goals (refine hR _ ?_; clear hR R))
    all_goals iterate 5 refine qP ?_
    all_goals refine qE ?_)
  all_goals first
  | fail_if_success with_reducible refine atR 6 ?_
  | (
    refine rg 6 [] [some 34, some 35, some 36, some 37, some 38, some 39, some 40, some 41, some 42, some 43, some 44, some 45, some 46, some 47, some 48, some 49, some 50, some 51, some 52, some 53, some 54] 21 ?_
    all_goals iterate 4 refine qP ?_
    all_goals first | refine qU 37 ?_ | (refine qS 37 ?_ ?_ <;> intro hg6_3 <;> try (cases hg6_3; done))
    all_goals iterate 2 refine qP ?_
    all_goals first
    | (
      refine qL_cons ?_
      intro R hR
      refine sm ?_
      refine call_fun (smMemos_spec (mpL ms m) (mpL ms m)) [] ?_ (.inl rfl) ?_
      · exact ⟨.inl rfl, ⟨.inl rfl, trivial⟩⟩
      refine sm ?_
      refine hR _ ?_
      clear hR R)
    | refine qP ?_
    all_goals iterate 3 refine qP ?_
    all_goals first | refine qU 43 ?_ | (refine qS 43 ?_ ?_ <;> intro hg6_9 <;> try (cases hg6_9; done))
    all_goals refine qP ?_
    all_goals first
    | (
      refine qL_cons ?_
      intro R hR
      refine sm ?_
      refine call_fun (implMemosOk ms) [] ?_ (.inl rfl) ?_
      · exact ⟨.inl rfl, trivial⟩
      refine sm ?_
      refine hR _ ?_
      clear hR R)
    | refine qP ?_
    all_goals refine qP ?_
    all_goals first
    | (
      refine qL_cons ?_
      intro R hR
      refine sm ?_
      refine call_fun (specMemosOk ms) [] ?_ (.inl rfl) ?_
      · exact ⟨.inl rfl, trivial⟩
      refine sm ?_
      refine hR _ ?_
      clear hR R)
    | refine qP ?_
    all_goals iterate 3 refine qP ?_
    all_goals first | refine qU 50 ?_ | (refine qS 50 ?_ ?_ <;> intro hg6_16 <;> try (cases hg6_16; done))
    all_goals refine qP ?_
    all_goals first
    | (
      refine qL_cons ?_
      intro R hR
      refine sm ?_
      refine call_fun (implMemosOk ms) [] ?_ (.inl rfl) ?_
      · exact ⟨.inl rfl, trivial⟩
      refine sm ?_
      refine hR _ ?_
      clear hR R)
    | refine qP ?_
    all_goals iterate 2 refine qP ?_
    all_goals refine qE ?_)
  all_goals first
  | fail_if_success with_reducible refine atC 54 ?_
  | (
    refine cn 54 ?_ ?_ <;> intro hc54 <;> try (cases hc54; done)
    all_goals refine st ?_)
  all_goals first
  | fail_if_success with_reducible refine atR 7 ?_
  | (
    refine rg 7 [] [some 55, some 56, some 57, some 58, some 59, some 60, some 61, some 62, some 63, some 64, some 65, some 66, some 67, some 68, some 69, some 2] 16 ?_
    all_goals iterate 4 refine qP ?_
    all_goals first | refine qU 58 ?_ | (refine qS 58 ?_ ?_ <;> intro hg7_3 <;> try (cases hg7_3; done))
    all_goals iterate 2 refine qP ?_
    all_goals first
    | (
      refine qL_cons ?_
      intro R hR
      refine sm ?_
      refine call_fun (smMemos_spec (mpL ms m) (mpL ms m)) [] ?_ (.inl rfl) ?_
      · exact ⟨.inl rfl, ⟨.inl rfl, trivial⟩⟩
      refine sm ?_
      refine hR _ ?_
      clear hR R)
    | refine qP ?_
    all_goals iterate 2 refine qP ?_
    all_goals first | refine qU 63 ?_ | (refine qS 63 ?_ ?_ <;> intro hg7_8 <;> try (cases hg7_8; done))
    all_goals refine qP ?_
    all_goals first
    | (
      refine qL_cons ?_
      intro R hR
      refine sm ?_
      refine call_fun (implMemosOk ms) [] ?_ (.inl rfl) ?_
      · exact ⟨.inl rfl, trivial⟩
      refine sm ?_
      refine hR _ ?_
      clear hR R)
    | refine qP ?_
    all_goals refine qP ?_
    all_goals first
    | (
      refine qL_cons ?_
      intro R hR
      refine sm ?_
      refine call_fun (specMemosOk ms) [] ?_ (.inl rfl) ?_
      · exact ⟨.inl rfl, trivial⟩
      refine sm ?_
      refine hR _ ?_
      clear hR R)
    | refine qP ?_
    all_goals iterate 3 refine qP ?_
    all_goals refine qE ?_)
  all_goals first
  | fail_if_success with_reducible refine atR 8 ?_
  | (
    refine rg 8 [] [some 70, some 71] 2 ?_
    all_goals iterate 2 refine qP ?_
    all_goals refine qE ?_)
  all_goals first
  | fail_if_success with_reducible refine atC 71 ?_
  | (
    refine cn 71 ?_ ?_ <;> intro hc71 <;> try (cases hc71; done)
    all_goals refine st ?_)
  all_goals try (have h2 : mpO ms m = true := (by simpa using hc71); have h3 := (mp_ok h2).2.2; have h4 := mp_again h2; have h5 := mp_swap h2)
  all_goals first
  | fail_if_success with_reducible refine atR 9 ?_
  | (
    refine rg 9 [] [some 72, some 73, some 74, some 2] 4 ?_
    all_goals iterate 2 refine qP ?_
    all_goals (
      refine qL_cons ?_
      intro R hR
      refine sm ?_
      refine call_fun (smMemos_spec (mpL ms m) (ms)) [] ?_ (.inl rfl) ?_
      · exact ⟨.inl rfl, ⟨.inl rfl, trivial⟩⟩
      refine sm ?_
      all_goals (refine hR _ ?_; clear hR R))
    all_goals refine qP ?_
    all_goals refine qE ?_)
  all_goals first
  | fail_if_success with_reducible refine atR 10 ?_
  | (
    refine rg 10 [] [some 76, some 77, some 78, some 75, some 79, some 80, some 9, some 10] 8 ?_
    all_goals iterate 2 refine qP ?_
    all_goals (
      refine qL_cons ?_
      intro R hR
      refine sm ?_
      refine call_fun (implMemoPut (mpL ms m) (m) hm) [] ?_ (.inl rfl) ?_
      · exact ⟨.inl rfl, ⟨.inl rfl, trivial⟩⟩
      refine sm ?_
      all_goals (refine hR _ ?_; clear hR R))
    all_goals iterate 5 refine qP ?_
    all_goals refine qE ?_)
  all_goals first
  | fail_if_success with_reducible refine atR 11 ?_
  | (
    refine rg 11 [] [some 81, some 82, some 83, some 84, some 85, some 86, some 87, some 88, some 89, some 11, none] 11 ?_
    all_goals iterate 11 refine qP ?_
    all_goals refine qE ?_)
  all_goals first
  | fail_if_success with_reducible refine atR 12 ?_
  | (
    refine rg 12 [] [some 91, some 92, some 93, some 90, some 94, some 95, some 12, some 13] 8 ?_
    all_goals iterate 2 refine qP ?_
    all_goals (
      refine qL_cons ?_
      intro R hR
      refine sm ?_
      refine call_fun (implMemoPut (mpL ms m) (swM m) (sm_sw hm)) [] ?_ (.inl rfl) ?_
      · exact ⟨.inl rfl, ⟨.inl rfl, trivial⟩⟩
      refine sm ?_
      all_goals (refine hR _ ?_; clear hR R))
    all_goals iterate 5 refine qP ?_
    all_goals refine qE ?_)
  all_goals first
  | fail_if_success with_reducible refine atR 13 ?_
  | (
    refine rg 13 [] [some 96, some 97, some 98, some 99, some 100, some 101, some 102, some 103, some 104, some 105, some 106, some 107, some 108, some 109, some 110, some 111, some 112, some 113, some 114, some 115, some 2] 21 ?_
    all_goals refine qP ?_
    all_goals (
      refine qL_cons ?_
      intro R hR
      refine sm ?_
      refine call_fun (implMemosOk (mpL ms m)) [] ?_ (.inl rfl) ?_
      · exact ⟨.inl rfl, trivial⟩
      refine sm ?_
      all_goals (refine hR _ ?_; clear hR R))
    all_goals refine qP ?_
    all_goals first | refine qU 98 ?_ | (refine qS 98 ?_ ?_ <;> intro hg13_2 <;> try (cases hg13_2; done))
    all_goals iterate 3 refine qP ?_
    all_goals first | refine qU 101 ?_ | (refine qS 101 ?_ ?_ <;> intro hg13_5 <;> try (cases hg13_5; done))
    all_goals iterate 2 refine qP ?_
    all_goals first
    | (
      refine qL_cons ?_
      intro R hR
      refine sm ?_
      refine call_fun (smMemos_spec (mpL (mpL ms m) m) (mpL ms m)) [] ?_ (.inl rfl) ?_
      · exact ⟨.inl rfl, ⟨.inl rfl, trivial⟩⟩
      refine sm ?_
      refine hR _ ?_
      clear hR R)
    | refine qP ?_
    all_goals iterate 2 refine qP ?_
    all_goals first | refine qU 106 ?_ | (refine qS 106 ?_ ?_ <;> intro hg13_10 <;> try (cases hg13_10; done))
    all_goals iterate 3 refine qP ?_
    all_goals first | refine qU 109 ?_ | (refine qS 109 ?_ ?_ <;> intro hg13_13 <;> try (cases hg13_13; done))
    all_goals iterate 7 refine qP ?_
    all_goals refine qE ?_)
  all_goals first
  | fail_if_success with_reducible refine ret_fun (t := 2) ?_ ?_
  | (
    refine ret_fun (t := 2) ?_ (fun _ => rfl)
    first
    | exact cl
    | (
      try refine sm ?_
      all_goals (
       first
       | (congr 2; simp_all; done)
       | (congr 2
          have hn := mp_not (ms := ms) (m := m) (by simpa using hc54) (by simpa using hc71)
          rw [hn]; simp; done)
       | trace_state)))

end
end Go.Proofs.Ytmlbdicaeefomaa
