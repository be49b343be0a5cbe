/- sizes; a copy of strings; a copy of a review; strings are as they were. No condition. -/
import Derived.Test.YtmlbdicaeefomaaE7
namespace Go.Proofs.Ytmlbdicaeefomaa
open Go Go.RowKit
set_option maxRecDepth 100000
set_option linter.unusedSimpArgs false
set_option linter.unusedVariables false
attribute [local go_sem] List.size_toArray Int.toNat_zero Nat.sub_zero size_mk top_val eq_self datL X.dat u8min u8max i64min i64max stepT gdO aop ev lit litOk putF fzX_false putO upd app List.contains_nil List.elem_nil aBin aInt aStr aBool aLen lenTy aBuiltin aLoad aTake aTakeX aStore splice aSlice aBd look_cons look_nil lookC_cons lookC_nil by_s by_C start_s start_C X.cells X.cell List.all_cons List.all_nil Bool.and_self Bool.not_true Bool.not_false false_implies true_implies forall_const and_true true_and and_self implies_true not_false_eq_true Nat.zero_add Nat.add_zero List.getD_cons_zero List.getD_cons_succ List.map_cons List.map_nil Option.bind_some Option.map_some Option.map_none List.getElem?_cons_zero List.getElem?_cons_succ List.length_cons List.length_nil List.drop_zero List.drop_succ_cons List.take_succ_cons List.take_zero List.cons_append List.nil_append List.append_nil D.of List.length_map all_get_map Option.isSome_some and_false false_and Nat.lt_add_one Nat.zero_lt_succ decide_true decide_false aPart Nat.lt_irrefl fzX litEs List.contains_cons List.elem_cons Bool.true_or Bool.or_true Bool.false_or Bool.or_false beq_self_eq_true
def szGo : List ByteArray → Int → Int
  | [], x => x
  | s :: r, x => if x - s.size < 0 then -1 else szGo r (x - s.size)
def szS (l : List ByteArray) (left : Int) : Int := if left - l.length < 0 then -1 else szGo l (left - l.length)
theorem szGo_le : ∀ (l : List ByteArray) (x : Int), 0 ≤ x → -1 ≤ szGo l x ∧ szGo l x ≤ x
  | [], x, h => by simp [szGo]; omega
  | s :: r, x, h => by
    simp only [szGo]
    split
    · omega
    · have := szGo_le r (x - s.size) (by omega); omega
theorem szS_le {l : List ByteArray} {left : Int} (h : 0 ≤ left) : -1 ≤ szS l left ∧ szS l left ≤ left := by
  unfold szS
  split
  · omega
  · have := szGo_le l (left - l.length) (by omega); omega
theorem szS_len {l : List ByteArray} {left : Int} (h0 : 0 ≤ left) (h : 0 ≤ szS l left) : (l.length : Int) ≤ left := by
  unfold szS at h
  split at h
  · omega
  · omega
theorem szGo_drop {l : List ByteArray} {i : Nat} {s : ByteArray} (h : l[i]? = some s) (x : Int) : szGo (l.drop i) x = if x - s.size < 0 then -1 else szGo (l.drop (i + 1)) (x - s.size) := by
  obtain ⟨hi, rfl⟩ := List.getElem?_eq_some_iff.1 h
  rw [List.drop_eq_getElem_cons hi]
  rfl
def szRv (v : Rv) (left : Int) : Int :=
  let a := left - v.br.size
  if a < 0 then -1 else
  let b := a - v.into.size
  if b < 0 then -1 else
  let c := b - v.by_.size
  if c < 0 then -1 else
  let d := szS v.yes c
  if d < 0 then -1 else d
section
attribute [local go_sem] tsz9 tsz22 tsz27 tfld27 tsz24 tfld24 tel22 toNat_cast sS und9
theorem szStringS_spec (ss : List ByteArray) (left : Int) (hl : 0 ≤ left) (hl2 : left ≤ 1000000) : Fun Try.prog 30 [.d (strs ss), .d (.int .i64 left)] (.d (.int .i64 (szS ss left))) := by
  refine Fun.of ?_ rfl rfl
  refine Spec.of (fn := Try.f30) Try.func30 rfl (by kernel_rfl) (rs := [.tmp 4]) rfl 1 (by simp [Try.f30]) rfl (by simp) ?_
  intro hreal
  rintro ⟨P, T, L0, w0, ι0, C0, U0⟩ hP hT hU
  subst hP hT
  refine st ?_
  have hlen : ss.length ≤ 9223372036854775807 := by simpa using D.real_len (X.real_d (hreal (.d (strs ss)) (by simp)) : D.real (.sl (ss.map sS)))
  have hszs : ∀ s ∈ ss, s.size ≤ 9223372036854775807 := fun s hs => D.real_str (D.real_sl (X.real_d (hreal (.d (strs ss)) (by simp)) : D.real (.sl (ss.map sS))) (sS s) (List.mem_map_of_mem hs) (.str s) (by simp [sS]))
  all_goals first
  | fail_if_success with_reducible refine atR 0 ?_
  | (
    refine rg 0 [] [some 4] 1 ?_
    all_goals refine qP ?_
    all_goals refine qE ?_)
  all_goals first
  | fail_if_success with_reducible refine atR 1 ?_
  | (
    refine rg 1 [] [some 6, some 7, some 8, some 9, some 1] 5 ?_
    all_goals iterate 3 refine qP ?_
    all_goals (
      refine qL_cons ?_
      intro R hR
      refine sm ?_
      rw [wrap64 (by omega) (by omega)]
      all_goals (refine hR _ ?_; clear hR R))
    all_goals refine qP ?_
    all_goals refine qE ?_)
  all_goals first
  | fail_if_success with_reducible refine atR 2 ?_
  | (
    refine rg 2 [] [some 10, some 11] 2 ?_
    all_goals iterate 2 refine qP ?_
    all_goals refine qE ?_)
  all_goals first
  | fail_if_success with_reducible refine atC 11 ?_
  | (
    refine cn 11 ?_ ?_ <;> intro hc11 <;> try (cases hc11; done)
    all_goals refine st ?_)
  all_goals first
  | fail_if_success with_reducible refine atR 3 ?_
  | (
    refine rg 3 [] [some 4] 1 ?_
    all_goals refine qP ?_
    all_goals refine qE ?_)
  all_goals first
  | fail_if_success with_reducible refine atR 4 ?_
  | (
    refine rg 4 [] [some 5] 1 ?_
    all_goals refine qP ?_
    all_goals refine qE ?_)
  all_goals first
  | fail_if_success with_reducible refine AW.rounds (α := (Nat × Int)) ?_ ?_ ?_ ?_ ?_ ?_ ?_ ?_
  | (
    refine AW.rounds (α := (Nat × Int)) (fun p => p.1 ≤ ss.length ∧ 0 ≤ p.2 ∧ p.2 ≤ 1000000 ∧ szS ss left = szGo (ss.drop p.1) p.2) (fun p => St.by [(0, .d (strs ss)), (1, .d (.int .i64 p.2)), (5, .d (.int .i64 p.1))] []) (fun p => ss.length - p.1) 1 (0, left - ss.length) ?_ ?_ ?_
    · refine ⟨by simp, by simp only; omega, by simp only; omega, ?_⟩
      simp only [List.drop_zero, szS]
      rw [if_neg (by omega)]
    · refine Vw.to [] _ _ (vU hU) ?_ ?_ (by simp [tauL])
      · refine vd (vd (vw_d ?_ (trivial)))
        · first
          | exact cl2
          | (
            refine sm2 ?_
            all_goals (
             rfl))
      · trivial
    · intro p hJ
      refine st ?_
      obtain ⟨hJ1, hJ2, hJ3, hJ4⟩ := hJ
      all_goals first
      | fail_if_success with_reducible refine atR 5 ?_
      | (
        refine rg 5 [] [some 12, some 13, some 14, some 15] 4 ?_
        all_goals iterate 4 refine qP ?_
        all_goals refine qE ?_)
      all_goals first
      | fail_if_success with_reducible refine atC 15 ?_
      | (
        refine cn 15 ?_ ?_ <;> intro hc15 <;> try (cases hc15; done)
        all_goals refine st ?_)
      all_goals first
      | fail_if_success with_reducible refine atR 7 ?_
      | (
        refine rg 7 [] [some 18, some 19, some 20, some 21, some 22, some 23, some 24, some 1] 8 ?_
        all_goals iterate 3 refine qP ?_
        all_goals (
          refine qL_cons ?_
          intro R hR
          refine sm ?_
          refine ⟨⟨by omega, by omega⟩, ?_⟩
          intro x3 hx3
          have hz3 : x3.size ≤ 9223372036854775807 := hszs x3 (List.mem_of_getElem? hx3)
          all_goals (refine hR _ ?_; clear hR R))
        all_goals iterate 2 refine qP ?_
        all_goals (
          refine qL_cons ?_
          intro R hR
          refine sm ?_
          rw [wrap64 (by omega) (by omega)]
          all_goals (refine hR _ ?_; clear hR R))
        all_goals refine qP ?_
        all_goals refine qE ?_)
      all_goals first
      | fail_if_success with_reducible refine atR 8 ?_
      | (
        refine rg 8 [] [some 25, some 26] 2 ?_
        all_goals iterate 2 refine qP ?_
        all_goals refine qE ?_)
      all_goals first
      | fail_if_success with_reducible refine atC 26 ?_
      | (
        refine cn 26 ?_ ?_ <;> intro hc26 <;> try (cases hc26; done)
        all_goals refine st ?_)
      all_goals first
      | fail_if_success with_reducible refine atR 9 ?_
      | (
        refine rg 9 [] [some 4] 1 ?_
        all_goals refine qP ?_
        all_goals refine qE ?_)
      all_goals first
      | fail_if_success with_reducible refine atR 6 ?_
      | (
        refine rg 6 [] [some 16, some 17, some 5] 3 ?_
        all_goals refine qP ?_
        all_goals (
          refine qL_cons ?_
          intro R hR
          refine sm ?_
          rw [wrap64 (by omega) (by omega)]
          all_goals (refine hR _ ?_; clear hR R))
        all_goals refine qP ?_
        all_goals refine qE ?_)
      all_goals first
      | fail_if_success with_reducible refine atR 10 ?_
      | (
        refine rg 10 [] [some 27, some 4] 2 ?_
        all_goals iterate 2 refine qP ?_
        all_goals refine qE ?_)
      all_goals first
      | fail_if_success with_reducible refine ⟨(p.1 + 1, p.2 - x3.size), ?_, ?_, ?_⟩
      | (
        refine ⟨(p.1 + 1, p.2 - x3.size), ?_, ?_, ?_⟩
        · refine ⟨by simp only; omega, by simp only; omega, by simp only; omega, ?_⟩
          rw [hJ4, szGo_drop hx3, if_neg (by omega)]
        · simp only; omega
        · refine Vw.to [] _ _ (vU hU) ?_ ?_ (by simp [tauL])
          · refine vd (vd (vw_d ?_ (trivial)))
            · first
              | exact cl2
              | (
                refine sm2 ?_
                all_goals (
                 congr 1))
          · trivial)
      all_goals first
      | fail_if_success with_reducible refine ret_fun (t := 4) ?_ ?_
      | (
        refine ret_fun (t := 4) ?_ (fun _ => rfl)
        first
        | exact cl
        | (
          try refine sm ?_
          all_goals (
           first
             | (congr 2; done)
             | (congr 2; rw [hJ4, szGo_drop hx3, if_pos (by omega)]; done)
             | (congr 2; rw [hJ4, List.drop_of_length_le (by omega)]; rfl)))))
  all_goals first
  | fail_if_success with_reducible refine ret_fun (t := 4) ?_ ?_
  | (
    refine ret_fun (t := 4) ?_ (fun _ => rfl)
    first
    | exact cl
    | (
      try refine sm ?_
      all_goals (
       first
         | (congr 2; unfold szS; rw [if_pos (by omega)]; done))))

end
section
attribute [local go_sem] tsz9 tsz22 tsz27 tfld27 tsz24 tfld24 tel22 toNat_cast sS und9
theorem szReview_spec (v : Rv) (left : Int) (hl : 0 ≤ left) (hl2 : left ≤ 1000000) : Fun Try.prog 8 [.ag [.d (.str v.br), .d (.str v.into), .d (.str v.by_), .d (strs v.yes)], .d (.int .i64 left)] (.d (.int .i64 (szRv v left))) := by
  refine Fun.of ?_ rfl rfl
  refine Spec.of (fn := Try.f8) Try.func8 rfl (by kernel_rfl) (rs := [.tmp 4]) rfl 1 (by simp [Try.f8]) rfl (by simp) ?_
  intro hreal
  rintro ⟨P, T, L0, w0, ι0, C0, U0⟩ hP hT hU
  subst hP hT
  refine st ?_
  have hbr : v.br.size ≤ 9223372036854775807 := D.real_str (X.real_d (X.real_ag (hreal (.ag [.d (.str v.br), .d (.str v.into), .d (.str v.by_), .d (strs v.yes)]) (by simp)) (.d (.str v.br)) (by simp)))
  have hinto : v.into.size ≤ 9223372036854775807 := D.real_str (X.real_d (X.real_ag (hreal (.ag [.d (.str v.br), .d (.str v.into), .d (.str v.by_), .d (strs v.yes)]) (by simp)) (.d (.str v.into)) (by simp)))
  have hby_ : v.by_.size ≤ 9223372036854775807 := D.real_str (X.real_d (X.real_ag (hreal (.ag [.d (.str v.br), .d (.str v.into), .d (.str v.by_), .d (strs v.yes)]) (by simp)) (.d (.str v.by_)) (by simp)))
  all_goals first
  | fail_if_success with_reducible refine atR 0 ?_
  | (
    refine rg 0 [] [some 2, some 4] 2 ?_
    all_goals iterate 2 refine qP ?_
    all_goals refine qE ?_)
  all_goals first
  | fail_if_success with_reducible refine atR 1 ?_
  | (
    refine rg 1 [] [some 5, some 6, some 7, some 8, some 9, some 1] 6 ?_
    all_goals iterate 4 refine qP ?_
    all_goals (
      refine qL_cons ?_
      intro R hR
      refine sm ?_
      rw [wrap64 (by omega) (by omega)]
      all_goals (refine hR _ ?_; clear hR R))
    all_goals refine qP ?_
    all_goals refine qE ?_)
  all_goals first
  | fail_if_success with_reducible refine atR 2 ?_
  | (
    refine rg 2 [] [some 10, some 11] 2 ?_
    all_goals iterate 2 refine qP ?_
    all_goals refine qE ?_)
  all_goals first
  | fail_if_success with_reducible refine atC 11 ?_
  | (
    refine cn 11 ?_ ?_ <;> intro hc11 <;> try (cases hc11; done)
    all_goals refine st ?_)
  all_goals first
  | fail_if_success with_reducible refine atR 3 ?_
  | (
    refine rg 3 [] [some 4] 1 ?_
    all_goals refine qP ?_
    all_goals refine qE ?_)
  all_goals first
  | fail_if_success with_reducible refine atR 4 ?_
  | (
    refine rg 4 [] [some 12, some 13, some 14, some 15, some 16, some 1] 6 ?_
    all_goals iterate 4 refine qP ?_
    all_goals (
      refine qL_cons ?_
      intro R hR
      refine sm ?_
      rw [wrap64 (by omega) (by omega)]
      all_goals (refine hR _ ?_; clear hR R))
    all_goals refine qP ?_
    all_goals refine qE ?_)
  all_goals first
  | fail_if_success with_reducible refine atR 5 ?_
  | (
    refine rg 5 [] [some 17, some 18] 2 ?_
    all_goals iterate 2 refine qP ?_
    all_goals refine qE ?_)
  all_goals first
  | fail_if_success with_reducible refine atC 18 ?_
  | (
    refine cn 18 ?_ ?_ <;> intro hc18 <;> try (cases hc18; done)
    all_goals refine st ?_)
  all_goals first
  | fail_if_success with_reducible refine atR 6 ?_
  | (
    refine rg 6 [] [some 4] 1 ?_
    all_goals refine qP ?_
    all_goals refine qE ?_)
  all_goals first
  | fail_if_success with_reducible refine atR 7 ?_
  | (
    refine rg 7 [] [some 19, some 20, some 21, some 22, some 23, some 1] 6 ?_
    all_goals iterate 4 refine qP ?_
    all_goals (
      refine qL_cons ?_
      intro R hR
      refine sm ?_
      rw [wrap64 (by omega) (by omega)]
      all_goals (refine hR _ ?_; clear hR R))
    all_goals refine qP ?_
    all_goals refine qE ?_)
  all_goals first
  | fail_if_success with_reducible refine atR 8 ?_
  | (
    refine rg 8 [] [some 24, some 25] 2 ?_
    all_goals iterate 2 refine qP ?_
    all_goals refine qE ?_)
  all_goals first
  | fail_if_success with_reducible refine atC 25 ?_
  | (
    refine cn 25 ?_ ?_ <;> intro hc25 <;> try (cases hc25; done)
    all_goals refine st ?_)
  all_goals first
  | fail_if_success with_reducible refine atR 9 ?_
  | (
    refine rg 9 [] [some 4] 1 ?_
    all_goals refine qP ?_
    all_goals refine qE ?_)
  all_goals first
  | fail_if_success with_reducible refine atR 10 ?_
  | (
    refine rg 10 [] [some 26, some 27, some 28, some 29, some 1] 5 ?_
    all_goals iterate 3 refine qP ?_
    all_goals (
      refine qL_cons ?_
      intro R hR
      refine sm ?_
      refine call_fun (szStringS_spec v.yes (left - v.br.size - v.into.size - v.by_.size) (by omega) (by omega)) [] ?_ (.inl rfl) ?_
      · exact ⟨.inl rfl, ⟨.inl rfl, trivial⟩⟩
      refine sm ?_
      all_goals (refine hR _ ?_; clear hR R))
    all_goals refine qP ?_
    all_goals refine qE ?_)
  all_goals first
  | fail_if_success with_reducible refine atR 11 ?_
  | (
    refine rg 11 [] [some 30, some 31] 2 ?_
    all_goals iterate 2 refine qP ?_
    all_goals refine qE ?_)
  all_goals first
  | fail_if_success with_reducible refine atC 31 ?_
  | (
    refine cn 31 ?_ ?_ <;> intro hc31 <;> try (cases hc31; done)
    all_goals refine st ?_)
  all_goals first
  | fail_if_success with_reducible refine atR 12 ?_
  | (
    refine rg 12 [] [some 4] 1 ?_
    all_goals refine qP ?_
    all_goals refine qE ?_)
  all_goals first
  | fail_if_success with_reducible refine atR 13 ?_
  | (
    refine rg 13 [] [some 32, some 4] 2 ?_
    all_goals iterate 2 refine qP ?_
    all_goals refine qE ?_)
  all_goals first
  | fail_if_success with_reducible refine ret_fun (t := 4) ?_ ?_
  | (
    refine ret_fun (t := 4) ?_ (fun _ => rfl)
    first
    | exact cl
    | (
      try refine sm ?_
      all_goals (
       congr 2; simp only [szRv]; repeat (first | rfl | rw [if_pos (by omega)] | rw [if_neg (by omega)]))))

theorem tmod6 (n : Nat) : (n : Int).tmod 6 = ((n % 6 : Nat) : Int) := rfl
theorem tmod3 (n : Nat) : (n : Int).tmod 3 = ((n % 3 : Nat) : Int) := rfl
def room (n : Nat) : Nat := if n % 6 = 5 then 0 else if n % 3 = 0 then 1 else n
end
section
attribute [local go_sem] tsz9 tsz22 tsz27 tfld27 tsz24 tfld24 tel22 toNat_cast sS und9
theorem roomBehind_spec (n : Nat) (hn : n ≤ 9223372036854775807) : Fun Try.prog 51 [.d (.int .i64 n)] (.d (.int .i64 (room n))) := by
  refine Fun.of ?_ rfl rfl
  refine Spec.of (fn := Try.f51) Try.func51 rfl (by kernel_rfl) (rs := [.tmp 2]) rfl 1 (by simp [Try.f51]) rfl (by simp) ?_
  intro hreal
  rintro ⟨P, T, L0, w0, ι0, C0, U0⟩ hP hT hU
  subst hP hT
  refine st ?_
  all_goals first
  | fail_if_success with_reducible refine atR 0 ?_
  | (
    refine rg 0 [] [some 2] 1 ?_
    all_goals refine qP ?_
    all_goals refine qE ?_)
  all_goals first
  | fail_if_success with_reducible refine atR 1 ?_
  | (
    refine rg 1 [] [some 3, some 4, some 5] 3 ?_
    all_goals refine qP ?_
    all_goals (
      refine qL_cons ?_
      intro R hR
      refine sm ?_
      rw [tmod6]
      rw [wrap64 (by omega) (by omega)]
      all_goals (refine hR _ ?_; clear hR R))
    all_goals refine qP ?_
    all_goals refine qE ?_)
  all_goals first
  | fail_if_success with_reducible refine atC 5 ?_
  | (
    refine cn 5 ?_ ?_ <;> intro hc5 <;> try (cases hc5; done)
    all_goals refine st ?_)
  all_goals first
  | fail_if_success with_reducible refine atR 2 ?_
  | (
    refine rg 2 [] [some 2] 1 ?_
    all_goals refine qP ?_
    all_goals refine qE ?_)
  all_goals first
  | fail_if_success with_reducible refine atR 3 ?_
  | (
    refine rg 3 [] [some 6, some 7, some 8] 3 ?_
    all_goals refine qP ?_
    all_goals (
      refine qL_cons ?_
      intro R hR
      refine sm ?_
      rw [tmod3]
      rw [wrap64 (by omega) (by omega)]
      all_goals (refine hR _ ?_; clear hR R))
    all_goals refine qP ?_
    all_goals refine qE ?_)
  all_goals first
  | fail_if_success with_reducible refine atC 8 ?_
  | (
    refine cn 8 ?_ ?_ <;> intro hc8 <;> try (cases hc8; done)
    all_goals refine st ?_)
  all_goals first
  | fail_if_success with_reducible refine atR 4 ?_
  | (
    refine rg 4 [] [some 2] 1 ?_
    all_goals refine qP ?_
    all_goals refine qE ?_)
  all_goals first
  | fail_if_success with_reducible refine atR 5 ?_
  | (
    refine rg 5 [] [some 9, some 2] 2 ?_
    all_goals iterate 2 refine qP ?_
    all_goals refine qE ?_)
  all_goals first
  | fail_if_success with_reducible refine ret_fun (t := 2) ?_ ?_
  | (
    refine ret_fun (t := 2) ?_ (fun _ => rfl)
    first
    | exact cl
    | (
      try refine sm ?_
      all_goals (
       congr 2; simp only [room]; split <;> (try split) <;> omega)))

end
end Go.Proofs.Ytmlbdicaeefomaa
namespace Go.Proofs.Ytmlbdicaeefomaa
open Go Go.RowKit
set_option maxRecDepth 100000
set_option linter.unusedSimpArgs false
set_option linter.unusedVariables false
attribute [local go_sem] List.size_toArray Int.toNat_zero Nat.sub_zero size_mk top_val eq_self datL X.dat u8min u8max i64min i64max stepT gdO aop ev lit litOk putF fzX_false putO upd app List.contains_nil List.elem_nil aBin aInt aStr aBool aLen lenTy aBuiltin aLoad aTake aTakeX aStore splice aSlice aBd look_cons look_nil lookC_cons lookC_nil by_s by_C start_s start_C X.cells X.cell List.all_cons List.all_nil Bool.and_self Bool.not_true Bool.not_false false_implies true_implies forall_const and_true true_and and_self implies_true not_false_eq_true Nat.zero_add Nat.add_zero List.getD_cons_zero List.getD_cons_succ List.map_cons List.map_nil Option.bind_some Option.map_some Option.map_none List.getElem?_cons_zero List.getElem?_cons_succ List.length_cons List.length_nil List.drop_zero List.drop_succ_cons List.take_succ_cons List.take_zero List.cons_append List.nil_append List.append_nil D.of List.length_map all_get_map Option.isSome_some and_false false_and Nat.lt_add_one Nat.zero_lt_succ decide_true decide_false aPart Nat.lt_irrefl fzX litEs List.contains_cons List.elem_cons Bool.true_or Bool.or_true Bool.false_or Bool.or_false beq_self_eq_true
def spare : ByteArray := { data := #[126, 115, 112, 97, 114, 101, 126] }
def toS (ss : List ByteArray) (bare : Bool) : X := if bare && decide (ss.length = 0) then .nil else .d (spOf ss.length ((ss ++ List.replicate (room ss.length) spare).map sS))
theorem z9 : (tzero Try.prog 9).bind datL = some [.str ByteArray.empty] := by kernel_rfl
theorem toS_end {ss l : List ByteArray} (h1 : l.length = ss.length + room ss.length) (h2 : ∀ j, j < ss.length → l[j]? = ss[j]?) (h3 : ∀ j, ss.length ≤ j → j < ss.length + room ss.length → l[j]? = some spare) : l = ss ++ List.replicate (room ss.length) spare := by
  apply List.ext_getElem?
  intro j
  by_cases hj : j < ss.length
  · rw [h2 j hj, List.getElem?_append_left hj]
  · by_cases hj2 : j < ss.length + room ss.length
    · rw [h3 j (by omega) hj2, List.getElem?_append_right (by omega), List.getElem?_replicate]
      simp; omega
    · rw [List.getElem?_eq_none (by omega), List.getElem?_eq_none (by simp; omega)]
theorem room_le (n : Nat) : room n ≤ n + 1 := by unfold room; split <;> (try split) <;> omega
section
attribute [local go_sem] tsz9 tsz22 tsz27 tfld27 tsz24 tfld24 tel22 toNat_cast sS und9 addNat z9
theorem toStringS_spec (ss : List ByteArray) (bare : Bool) (hss : ss.length ≤ 1000000) : Fun Try.prog 32 [.d (strs ss), .d (.bool bare)] (toS ss bare) := by
  refine Fun.of ?_ rfl (by unfold toS; split <;> rfl)
  refine Spec.of (fn := Try.f32) Try.func32 rfl (by kernel_rfl) (rs := [.tmp 4]) rfl 1 (by simp [Try.f32]) rfl (by simp) ?_
  intro hreal
  rintro ⟨P, T, L0, w0, ι0, C0, U0⟩ hP hT hU
  subst hP hT
  refine st ?_
  have hroom := room_le ss.length
  all_goals first
  | fail_if_success with_reducible refine atR 0 ?_
  | (
    refine rg 0 [] [some 4] 1 ?_
    all_goals refine qP ?_
    all_goals refine qE ?_)
  all_goals first
  | fail_if_success with_reducible refine atR 1 ?_
  | (
    refine rg 1 [] [some 8, some 9, some 10, some 11, some 12, some 13] 6 ?_
    all_goals iterate 2 refine qP ?_
    all_goals first | refine qU 9 ?_ | (refine qS 9 ?_ ?_ <;> intro hg1_1 <;> try (cases hg1_1; done))
    all_goals iterate 4 refine qP ?_
    all_goals refine qE ?_)
  all_goals first
  | fail_if_success with_reducible refine atC 13 ?_
  | (
    refine cn 13 ?_ ?_ <;> intro hc13 <;> try (cases hc13; done)
    all_goals refine st ?_)
  all_goals first
  | fail_if_success with_reducible refine atR 2 ?_
  | (
    refine rg 2 [] [some 4] 1 ?_
    all_goals refine qP ?_
    all_goals refine qE ?_)
  all_goals first
  | fail_if_success with_reducible refine atR 3 ?_
  | (
    refine rg 3 [] [some 14, some 15, some 16, some 17, some 18, some 19, some 20, some 5] 8 ?_
    all_goals iterate 4 refine qP ?_
    all_goals (
      refine qL_cons ?_
      intro R hR
      refine sm ?_
      refine call_fun (roomBehind_spec ss.length (by omega)) [] ?_ (.inl rfl) ?_
      · exact ⟨.inl rfl, trivial⟩
      refine sm ?_
      all_goals (refine hR _ ?_; clear hR R))
    all_goals (
      refine qL_cons ?_
      intro R hR
      refine sm ?_
      rw [wrap64 (by omega) (by omega)]
      all_goals (refine hR _ ?_; clear hR R))
    all_goals (
      refine qL_cons ?_
      intro R hR
      refine sm ?_
      refine ⟨⟨by omega, by omega, by omega, by omega⟩, ?_⟩
      all_goals (refine hR _ ?_; clear hR R))
    all_goals refine qP ?_
    all_goals refine qE ?_)
  all_goals first
  | fail_if_success with_reducible refine atR 4 ?_
  | (
    refine rg 4 [] [some 6] 1 ?_
    all_goals refine qP ?_
    all_goals refine qE ?_)
  all_goals first
  | fail_if_success with_reducible refine AW.rounds (α := (Nat × List ByteArray)) ?_ ?_ ?_ ?_ ?_ ?_ ?_ ?_
  | (
    refine AW.rounds (α := (Nat × List ByteArray)) (fun p => p.1 ≤ ss.length ∧ p.2.length = ss.length + room ss.length ∧ ∀ j, j < p.1 → p.2[j]? = ss[j]?) (fun p => St.by [(0, .d (strs ss)), (5, .vec 14 1 0 (ss.length + room ss.length)), (6, .d (.int .i64 p.1))] [(14, .vec 9 1 (p.2.map sS))]) (fun p => ss.length - p.1) 15 (0, List.replicate (ss.length + room ss.length) ByteArray.empty) ?_ ?_ ?_
    · refine ⟨by simp, by simp, fun j hj => ?_⟩
      simp only at hj; omega
    · refine Vw.to [] _ _ (vU hU) ?_ ?_ (by simp [tauL])
      · refine vd (vx (vw_d ?_ (trivial)))
        · first
          | exact cl2
          | (
            refine sm2 ?_
            all_goals (
             rfl))
      · refine ⟨⟨by simp, rfl, ?_⟩, trivial⟩
        refine sm3 ?_
        simp [sS]
    · intro p hJ
      refine st ?_
      obtain ⟨hJ1, hJ2, hJ3⟩ := hJ
      all_goals first
      | fail_if_success with_reducible refine atR 5 ?_
      | (
        refine rg 5 [] [some 21, some 22, some 23, some 24] 4 ?_
        all_goals iterate 4 refine qP ?_
        all_goals refine qE ?_)
      all_goals first
      | fail_if_success with_reducible refine atC 24 ?_
      | (
        refine cn 24 ?_ ?_ <;> intro hc24 <;> try (cases hc24; done)
        all_goals refine st ?_)
      all_goals first
      | fail_if_success with_reducible refine atR 7 ?_
      | (
        refine rg 7 [] [some 27, some 28, some 29, some 30, some 31, some 32, some 33, none] 8 ?_
        all_goals iterate 4 refine qP ?_
        all_goals (
          refine qL_cons ?_
          intro R hR
          refine sm ?_
          refine ⟨⟨by omega, by omega⟩, ?_⟩
          intro x4 hx4
          all_goals (refine hR _ ?_; clear hR R))
        all_goals refine qP ?_
        all_goals (
          refine qL_cons ?_
          intro R hR
          refine sm ?_
          refine ⟨⟨by omega, by omega⟩, ?_⟩
          all_goals (refine hR _ ?_; clear hR R))
        all_goals (
          refine qL_cons ?_
          intro R hR
          refine sm ?_
          refine ⟨by omega, ?_⟩
          intro x7 hx7
          all_goals (refine hR _ ?_; clear hR R))
        all_goals refine qE ?_)
      all_goals first
      | fail_if_success with_reducible refine atR 6 ?_
      | (
        refine rg 6 [] [some 25, some 26, some 6] 3 ?_
        all_goals refine qP ?_
        all_goals (
          refine qL_cons ?_
          intro R hR
          refine sm ?_
          rw [wrap64 (by omega) (by omega)]
          all_goals (refine hR _ ?_; clear hR R))
        all_goals refine qP ?_
        all_goals refine qE ?_)
      all_goals first
      | fail_if_success with_reducible refine ⟨(p.1 + 1, p.2.set p.1 x4), ?_, ?_, ?_⟩
      | (
        refine ⟨(p.1 + 1, p.2.set p.1 x4), ?_, ?_, ?_⟩
        · refine ⟨by simp only; omega, by simp only [List.length_set]; omega, fun j hj => ?_⟩
          simp only at hj ⊢
          by_cases hjp : j = p.1
          · subst hjp; rw [List.getElem?_set_self (by omega), hx4]
          · rw [List.getElem?_set_ne (Ne.symm hjp)]; exact hJ3 j (by omega)
        · simp only; omega
        · refine Vw.to [] _ _ (vU hU) ?_ ?_ (by simp [tauL])
          · refine vd (vx (vw_d ?_ (trivial)))
            · first
              | exact cl2
              | (
                refine sm2 ?_
                all_goals (
                 congr 1))
          · refine ⟨⟨by simp, rfl, ?_⟩, trivial⟩
            refine sm3 ?_
            simp [List.map_set, sS])
      all_goals first
      | fail_if_success with_reducible refine atR 8 ?_
      | (
        refine rg 8 [] [some 34, some 35, some 7] 3 ?_
        all_goals iterate 3 refine qP ?_
        all_goals refine qE ?_)
      all_goals first
      | fail_if_success with_reducible refine AW.rounds (α := (Nat × List ByteArray)) ?_ ?_ ?_ ?_ ?_ ?_ ?_ ?_
      | (
        refine AW.rounds (α := (Nat × List ByteArray)) (fun q => ss.length ≤ q.1 ∧ q.1 ≤ ss.length + room ss.length ∧ q.2.length = ss.length + room ss.length ∧ (∀ j, j < ss.length → q.2[j]? = ss[j]?) ∧ (∀ j, ss.length ≤ j → j < q.1 → q.2[j]? = some spare)) (fun q => St.by [(0, .d (strs ss)), (5, .vec 14 1 0 (ss.length + room ss.length)), (7, .d (.int .i64 q.1))] [(14, .vec 9 1 (q.2.map sS))]) (fun q => ss.length + room ss.length - q.1) 15 (ss.length, p.2) ?_ ?_ ?_
        · refine ⟨by simp, by simp, by simp only; omega, fun j hj => hJ3 j (by omega), fun j h1 h2 => ?_⟩
          simp only at h2; omega
        · refine Vw.to [] _ _ (vU hU) ?_ ?_ (by simp [tauL])
          · refine vd (vx (vd (trivial)))
          · refine ⟨⟨by simp, rfl, ?_⟩, trivial⟩
            exact cl4
        · intro q hJ
          refine st ?_
          obtain ⟨hK1, hK2, hK3, hK4, hK5⟩ := hJ
          all_goals first
          | fail_if_success with_reducible refine atR 9 ?_
          | (
            refine rg 9 [] [some 36, some 37, some 38, some 39] 4 ?_
            all_goals iterate 2 refine qP ?_
            all_goals (
              refine qL_cons ?_
              intro R hR
              refine sm ?_
              refine ⟨by omega, ?_⟩
              all_goals (refine hR _ ?_; clear hR R))
            all_goals refine qP ?_
            all_goals refine qE ?_)
          all_goals first
          | fail_if_success with_reducible refine atC 39 ?_
          | (
            refine cn 39 ?_ ?_ <;> intro hc39 <;> try (cases hc39; done)
            all_goals refine st ?_)
          all_goals first
          | fail_if_success with_reducible refine atR 11 ?_
          | (
            refine rg 11 [] [some 42, some 43, some 44, none] 4 ?_
            all_goals iterate 2 refine qP ?_
            all_goals (
              refine qL_cons ?_
              intro R hR
              refine sm ?_
              refine ⟨⟨by omega, by omega⟩, ?_⟩
              all_goals (refine hR _ ?_; clear hR R))
            all_goals (
              refine qL_cons ?_
              intro R hR
              refine sm ?_
              refine ⟨by omega, ?_⟩
              intro x7 hx7
              all_goals (refine hR _ ?_; clear hR R))
            all_goals refine qE ?_)
          all_goals first
          | fail_if_success with_reducible refine atR 10 ?_
          | (
            refine rg 10 [] [some 40, some 41, some 7] 3 ?_
            all_goals refine qP ?_
            all_goals (
              refine qL_cons ?_
              intro R hR
              refine sm ?_
              rw [wrap64 (by omega) (by omega)]
              all_goals (refine hR _ ?_; clear hR R))
            all_goals refine qP ?_
            all_goals refine qE ?_)
          all_goals first
          | fail_if_success with_reducible refine ⟨(q.1 + 1, q.2.set q.1 spare), ?_, ?_, ?_⟩
          | (
            refine ⟨(q.1 + 1, q.2.set q.1 spare), ?_, ?_, ?_⟩
            · refine ⟨by simp only; omega, by simp only; omega, by simp only [List.length_set]; omega, fun j hj => ?_, fun j h1 h2 => ?_⟩
              · simp only at hj ⊢
                rw [List.getElem?_set_ne (by omega)]; exact hK4 j hj
              · simp only at h1 h2 ⊢
                by_cases hjp : j = q.1
                · subst hjp; rw [List.getElem?_set_self (by omega)]
                · rw [List.getElem?_set_ne (Ne.symm hjp)]; exact hK5 j h1 (by omega)
            · simp only; omega
            · refine Vw.to [] _ _ (vU hU) ?_ ?_ (by simp [tauL])
              · refine vd (vx (vw_d ?_ (trivial)))
                · first
                  | exact cl2
                  | (
                    refine sm2 ?_
                    all_goals (
                     congr 1))
              · refine ⟨⟨by simp, rfl, ?_⟩, trivial⟩
                refine sm3 ?_
                simp [List.map_set, sS, spare])
          all_goals first
          | fail_if_success with_reducible refine atR 12 ?_
          | (
            refine rg 12 [] [some 45, some 46, some 47, some 48, some 4] 5 ?_
            all_goals iterate 3 refine qP ?_
            all_goals (
              refine qL_cons ?_
              intro R hR
              refine sm ?_
              refine ⟨⟨by omega, by omega⟩, ?_⟩
              all_goals (refine hR _ ?_; clear hR R))
            all_goals refine qP ?_
            all_goals refine qE ?_)
          all_goals (
            refine ret_frz (t := 4) 14 1 (q.2.map sS) (len := ss.length) (ty := 9) ?_ ?_ (by simp; omega) ?_
            · exact cl
            · exact cl
            · rw [toS_end hK3 hK4 (fun j h1 h2 => hK5 j h1 (by omega))]
              unfold toS
              rw [if_neg (by simp_all)])))
  all_goals first
    | (
        refine ret_fun (t := 4) ?_ (by intro V; unfold toS; split <;> rfl)
        refine sm ?_
        simp_all [toS]; done)
end
end Go.Proofs.Ytmlbdicaeefomaa
namespace Go.Proofs.Ytmlbdicaeefomaa
open Go Go.RowKit
set_option maxRecDepth 100000
set_option linter.unusedSimpArgs false
set_option linter.unusedVariables false
attribute [local go_sem] List.size_toArray Int.toNat_zero Nat.sub_zero size_mk top_val eq_self datL X.dat u8min u8max i64min i64max stepT gdO aop ev lit litOk putF fzX_false putO upd app List.contains_nil List.elem_nil aBin aInt aStr aBool aLen lenTy aBuiltin aLoad aTake aTakeX aStore splice aSlice aBd look_cons look_nil lookC_cons lookC_nil by_s by_C start_s start_C X.cells X.cell List.all_cons List.all_nil Bool.and_self Bool.not_true Bool.not_false false_implies true_implies forall_const and_true true_and and_self implies_true not_false_eq_true Nat.zero_add Nat.add_zero List.getD_cons_zero List.getD_cons_succ List.map_cons List.map_nil Option.bind_some Option.map_some Option.map_none List.getElem?_cons_zero List.getElem?_cons_succ List.length_cons List.length_nil List.drop_zero List.drop_succ_cons List.take_succ_cons List.take_zero List.cons_append List.nil_append List.append_nil D.of List.length_map all_get_map Option.isSome_some and_false false_and Nat.lt_add_one Nat.zero_lt_succ decide_true decide_false aPart Nat.lt_irrefl fzX litEs List.contains_cons List.elem_cons Bool.true_or Bool.or_true Bool.false_or Bool.or_false beq_self_eq_true
theorem zero27 : tzero Try.prog 27 = some [.d (.str ByteArray.empty), .d (.str ByteArray.empty), .d (.str ByteArray.empty), .nil] := by kernel_rfl
theorem toS_cases (ss : List ByteArray) (b : Bool) : toS ss b = .nil ∨ ∃ d, toS ss b = .d d := by
  unfold toS; split
  · exact .inl rfl
  · exact .inr ⟨_, rfl⟩
theorem bareL_sS (s : ByteArray) : D.bareL (sS s) = sS s := rfl
theorem toS_bare (ss : List ByteArray) (b : Bool) : (toS ss b).bare1 = .d (strs ss) := by
  unfold toS
  split
  · rename_i h
    have : ss = [] := by simp at h; exact h.2
    subst this; rfl
  · show X.d (D.bare (spOf _ _)) = _
    unfold spOf
    split
    · rename_i h
      have : List.replicate (room ss.length) spare = [] := by
        apply List.length_eq_zero_iff.1
        simp at h ⊢; omega
      simp only [this, List.append_nil, D.bare, bareLL_map, bareL_sS]; rfl
    · simp only [D.bare, bareLL_map, bareL_sS, D.of]
      congr 2
      rw [List.map_append, List.take_left' (by simp)]
def rvT (v : Rv) (b : Bool) : X := .ag [.d (.str v.br), .d (.str v.into), .d (.str v.by_), toS v.yes b]
theorem rvT_bare (v : Rv) (b : Bool) : (rvT v b).bare = .ag [.d (.str v.br), .d (.str v.into), .d (.str v.by_), .d (strs v.yes)] := by
  show X.ag [_, _, _, (toS v.yes b).bare1] = _
  rw [toS_bare]; rfl
theorem take_all {L : List ByteArray} {n : Nat} (h : L.length ≤ n) : (L.map sS).take n = L.map sS := List.take_of_length_le (by simpa using h)
theorem sS_len (L : List ByteArray) : ∀ x ∈ L.map sS, x.length = 1 := by
  intro x hx
  obtain ⟨s, -, rfl⟩ := List.mem_map.1 hx
  rfl
section
attribute [local go_sem] tsz9 tsz22 tsz27 tfld27 tsz24 tfld24 tel22 toNat_cast sS und9 zero27
theorem toReview_spec (v : Rv) (bare : Bool) (hv : v.yes.length ≤ 1000000) : Fun Try.prog 10 [.ag [.d (.str v.br), .d (.str v.into), .d (.str v.by_), .d (strs v.yes)], .d (.bool bare)] (rvT v bare) := by
  refine Fun.of ?_ rfl (by unfold rvT; rcases toS_cases v.yes bare with h | ⟨d, h⟩ <;> simp [X.on, X.onL, h])
  refine Spec.of (fn := Try.f10) Try.func10 rfl (by kernel_rfl) (rs := [.cell 4 27]) rfl 1 (by simp [Try.f10]) rfl (by simp) ?_
  intro hreal
  rintro ⟨P, T, L0, w0, ι0, C0, U0⟩ hP hT hU
  subst hP hT
  refine st ?_
  all_goals first
  | fail_if_success with_reducible refine atR 0 ?_
  | (
    refine rg 0 [] [some 2, some 4] 2 ?_
    all_goals iterate 2 refine qP ?_
    all_goals refine qE ?_)
  all_goals first
  | fail_if_success with_reducible refine atR 1 ?_
  | (
    refine rg 1 [] [some 5] 1 ?_
    all_goals refine qP ?_
    all_goals refine qE ?_)
  all_goals first
  | fail_if_success with_reducible refine atR 2 ?_
  | (
    refine rg 2 [] [some 6, some 7, some 8, none] 4 ?_
    all_goals iterate 4 refine qP ?_
    all_goals refine qE ?_)
  all_goals first
  | fail_if_success with_reducible refine atR 3 ?_
  | (
    refine rg 3 [] [some 9, some 10, some 11, none] 4 ?_
    all_goals iterate 4 refine qP ?_
    all_goals refine qE ?_)
  all_goals first
  | fail_if_success with_reducible refine atR 4 ?_
  | (
    refine rg 4 [] [some 12, some 13, some 14, none] 4 ?_
    all_goals iterate 4 refine qP ?_
    all_goals refine qE ?_)
  all_goals first
  | fail_if_success with_reducible refine atR 5 ?_
  | (
    refine rg 5 [] [some 15, some 16, some 17, some 18, some 19, none] 6 ?_
    all_goals iterate 3 refine qP ?_
    all_goals (
      refine qL_cons ?_
      intro R hR
      refine sm ?_
      refine call_fun (toStringS_spec v.yes bare hv) [] ?_ (.inl rfl) ?_
      · exact ⟨.inl rfl, ⟨.inl rfl, trivial⟩⟩
      refine sm ?_
      rcases toS_cases v.yes bare with hts | ⟨dd, hts⟩ <;> simp only [hts]
      all_goals (refine hR _ ?_; clear hR R))
    all_goals iterate 2 refine qP ?_
    all_goals refine qE ?_)
  all_goals first
  | fail_if_success with_reducible refine atR 6 ?_
  | (
    refine rg 6 [] [some 20, none] 2 ?_
    all_goals iterate 2 refine qP ?_
    all_goals refine qE ?_)
  all_goals (
    refine ret_cell (a := 4) (t := 27) ?_ (fun V => by unfold rvT; rcases toS_cases v.yes bare with h | ⟨d, h⟩ <;> simp [X.on, X.onL, h])
    simp only [go_sem, reduceIte, reduceCtorEq, Nat.reduceAdd, Nat.reduceEqDiff, Nat.reduceLeDiff, Nat.reduceLT, Nat.reduceSub, Int.reduceLE, Int.reduceNeg, Int.reduceLT, rvT, hts])

end
section
attribute [local go_sem] tsz9 tsz22 tsz27 tfld27 tsz24 tfld24 tel22 toNat_cast sS und9 zero27
theorem eqStringS_spec (a b : List ByteArray) : Fun Try.prog 62 [.d (strs a), .d (strs b)] (.d (.bool (decide (a = b)))) := by
  refine Fun.of ?_ rfl rfl
  refine Spec.of (fn := Try.f62) Try.func62 rfl (by kernel_rfl) (rs := [.tmp 4]) rfl 1 (by simp [Try.f62]) rfl (by simp) ?_
  intro hreal
  rintro ⟨P, T, L0, w0, ι0, C0, U0⟩ hP hT hU
  subst hP hT
  refine st ?_
  have hla : a.length ≤ 9223372036854775807 := by simpa using D.real_len (X.real_d (hreal (.d (strs a)) (by simp)) : D.real (.sl (a.map sS)))
  all_goals first
  | fail_if_success with_reducible refine atR 0 ?_
  | (
    refine rg 0 [] [some 4] 1 ?_
    all_goals refine qP ?_
    all_goals refine qE ?_)
  all_goals first
  | fail_if_success with_reducible refine atR 1 ?_
  | (
    refine rg 1 [] [some 6, some 7, some 8, some 9, some 10] 5 ?_
    all_goals iterate 5 refine qP ?_
    all_goals refine qE ?_)
  all_goals first
  | fail_if_success with_reducible refine atC 10 ?_
  | (
    refine cn 10 ?_ ?_ <;> intro hc10 <;> try (cases hc10; done)
    all_goals refine st ?_)
  all_goals first
  | fail_if_success with_reducible refine atR 2 ?_
  | (
    refine rg 2 [] [some 4] 1 ?_
    all_goals refine qP ?_
    all_goals refine qE ?_)
  all_goals first
  | fail_if_success with_reducible refine atR 3 ?_
  | (
    refine rg 3 [] [some 5] 1 ?_
    all_goals refine qP ?_
    all_goals refine qE ?_)
  all_goals first
  | fail_if_success with_reducible refine AW.rounds (α := Nat) ?_ ?_ ?_ ?_ ?_ ?_ ?_ ?_
  | (
    refine AW.rounds (α := Nat) (fun i => i ≤ a.length ∧ a.length = b.length ∧ ∀ j, j < i → a[j]? = b[j]?) (fun i => St.by [(0, .d (strs a)), (1, .d (strs b)), (5, .d (.int .i64 i))] []) (fun i => a.length - i) 1 0 ?_ ?_ ?_
    · exact ⟨by omega, by omega, fun j hj => by omega⟩
    · refine Vw.to [] _ _ (vU hU) ?_ ?_ (by simp [tauL])
      · refine vd (vd (vw_d ?_ (trivial)))
        · first
          | exact cl2
          | (
            refine sm2 ?_
            all_goals (
             rfl))
      · trivial
    · intro i hJ
      refine st ?_
      obtain ⟨hJ1, hJ2, hJ3⟩ := hJ
      all_goals first
      | fail_if_success with_reducible refine atR 4 ?_
      | (
        refine rg 4 [] [some 11, some 12, some 13, some 14] 4 ?_
        all_goals iterate 4 refine qP ?_
        all_goals refine qE ?_)
      all_goals first
      | fail_if_success with_reducible refine atC 14 ?_
      | (
        refine cn 14 ?_ ?_ <;> intro hc14 <;> try (cases hc14; done)
        all_goals refine st ?_)
      all_goals first
      | fail_if_success with_reducible refine atR 6 ?_
      | (
        refine rgD 6 [] [some 17, some 18, some 19, some 20, some 21, some 22, some 23, some 24, some 25] 9 10 ?_
        intro av hav
        all_goals iterate 2 refine qP ?_
        all_goals (
          refine qL_cons ?_
          intro R hR
          refine sm ?_
          refine ⟨⟨by omega, by omega⟩, ?_⟩
          intro x2 hx2
          all_goals (refine hR _ ?_; clear hR R))
        all_goals iterate 3 refine qP ?_
        all_goals (
          refine qL_cons ?_
          intro R hR
          refine sm ?_
          refine ⟨⟨by omega, by omega⟩, ?_⟩
          intro x6 hx6
          all_goals (refine hR _ ?_; clear hR R))
        all_goals iterate 2 refine qP ?_
        all_goals refine qE ?_
        all_goals clear  hav av)
      all_goals first
      | fail_if_success with_reducible refine atC 25 ?_
      | (
        refine cn 25 ?_ ?_ <;> intro hc25 <;> try (cases hc25; done)
        all_goals refine st ?_)
      all_goals first
      | fail_if_success with_reducible refine atR 7 ?_
      | (
        refine rg 7 [] [some 4] 1 ?_
        all_goals refine qP ?_
        all_goals refine qE ?_)
      all_goals first
      | fail_if_success with_reducible refine atR 5 ?_
      | (
        refine rg 5 [] [some 15, some 16, some 5] 3 ?_
        all_goals refine qP ?_
        all_goals (
          refine qL_cons ?_
          intro R hR
          refine sm ?_
          rw [wrap64 (by omega) (by omega)]
          all_goals (refine hR _ ?_; clear hR R))
        all_goals refine qP ?_
        all_goals refine qE ?_)
      all_goals first
      | fail_if_success with_reducible refine atR 8 ?_
      | (
        refine rg 8 [] [some 4] 1 ?_
        all_goals refine qP ?_
        all_goals refine qE ?_)
      all_goals first
      | fail_if_success with_reducible refine ⟨i + 1, ?_, ?_, ?_⟩
      | (
        refine ⟨i + 1, ?_, ?_, ?_⟩
        · refine ⟨by omega, hJ2, fun j hj => ?_⟩
          by_cases hji : j = i
          · subst hji; simp_all
          · exact hJ3 j (by omega)
        · omega
        · refine Vw.to [] _ _ (vU hU) ?_ ?_ (by simp [tauL])
          · refine vd (vd (vw_d ?_ (trivial)))
            · first
              | exact cl2
              | (
                refine sm2 ?_
                all_goals (
                 congr 1))
          · trivial)
      all_goals first
      | fail_if_success with_reducible refine ret_fun (t := 4) ?_ ?_
      | (
        refine ret_fun (t := 4) ?_ (fun _ => rfl)
        first
        | exact cl
        | (
          try refine sm ?_
          all_goals (
           first
             | (congr 2; symm; rw [decide_eq_false_iff_not]; intro hab; subst hab; simp_all; done)
             | (congr 2; symm; rw [decide_eq_true_eq]; apply List.ext_getElem?; intro j; by_cases hj : j < i
                · exact hJ3 j hj
                · rw [List.getElem?_eq_none (by omega), List.getElem?_eq_none (by omega)])))))
  all_goals first
  | fail_if_success with_reducible refine ret_fun (t := 4) ?_ ?_
  | (
    refine ret_fun (t := 4) ?_ (fun _ => rfl)
    first
    | exact cl
    | (
      try refine sm ?_
      all_goals (
       (congr 2; symm; rw [decide_eq_false_iff_not]; intro hab; subst hab; simp_all; done))))

end
end Go.Proofs.Ytmlbdicaeefomaa
namespace Go.Proofs.Ytmlbdicaeefomaa
open Go Go.RowKit
set_option maxRecDepth 100000
set_option linter.unusedSimpArgs false
set_option linter.unusedVariables false
attribute [local go_sem] List.size_toArray Int.toNat_zero Nat.sub_zero size_mk top_val eq_self datL X.dat u8min u8max i64min i64max stepT gdO aop ev lit litOk putF fzX_false putO upd app List.contains_nil List.elem_nil aBin aInt aStr aBool aLen lenTy aBuiltin aLoad aTake aTakeX aStore splice aSlice aBd look_cons look_nil lookC_cons lookC_nil by_s by_C start_s start_C X.cells X.cell List.all_cons List.all_nil Bool.and_self Bool.not_true Bool.not_false false_implies true_implies forall_const and_true true_and and_self implies_true not_false_eq_true Nat.zero_add Nat.add_zero List.getD_cons_zero List.getD_cons_succ List.map_cons List.map_nil Option.bind_some Option.map_some Option.map_none List.getElem?_cons_zero List.getElem?_cons_succ List.length_cons List.length_nil List.drop_zero List.drop_succ_cons List.take_succ_cons List.take_zero List.cons_append List.nil_append List.append_nil D.of List.length_map all_get_map Option.isSome_some and_false false_and Nat.lt_add_one Nat.zero_lt_succ decide_true decide_false aPart Nat.lt_irrefl fzX litEs List.contains_cons List.elem_cons Bool.true_or Bool.or_true Bool.false_or Bool.or_false beq_self_eq_true
section
attribute [local go_sem] tsz9 tsz22 tsz27 tfld27 tsz24 tfld24 tel22 toNat_cast sS_len und9 addNat
theorem intactA (L : List ByteArray) (h : room L.length = 0) (hn : L.length ≤ 1000000) : Fun Try.prog 35 [.d (strs L), .d (strs L)] (.d (.bool true)) := by
  refine Fun.of ?_ rfl rfl
  refine Spec.of (fn := Try.f35) Try.func35 rfl (by kernel_rfl) (rs := [.tmp 4]) rfl 1 (by simp [Try.f35]) rfl (by simp) ?_
  intro hreal
  rintro ⟨P, T, L0, w0, ι0, C0, U0⟩ hP hT hU
  subst hP hT
  refine st ?_
  have hroom := room_le (L.length)
  all_goals first
  | fail_if_success with_reducible refine atR 0 ?_
  | (
    refine rg 0 [] [some 4] 1 ?_
    all_goals refine qP ?_
    all_goals refine qE ?_)
  all_goals first
  | fail_if_success with_reducible refine atR 1 ?_
  | (
    refine rg 1 [] [some 6, some 7, some 8, some 9, some 10, some 11, some 5] 7 ?_
    all_goals iterate 4 refine qP ?_
    all_goals (
      refine qL_cons ?_
      intro R hR
      refine sm ?_
      refine call_fun (roomBehind_spec (L.length) (by omega)) [] ?_ (.inl rfl) ?_
      · exact ⟨.inl rfl, trivial⟩
      refine sm ?_
      all_goals (refine hR _ ?_; clear hR R))
    all_goals (
      refine qL_cons ?_
      intro R hR
      refine sm ?_
      rw [wrap64 (by omega) (by omega)]
      all_goals (refine hR _ ?_; clear hR R))
    all_goals refine qP ?_
    all_goals refine qE ?_)
  all_goals first
  | fail_if_success with_reducible refine atR 2 ?_
  | (
    refine rgD 2 [] [some 12, some 13, some 14, some 15, some 16, some 17, some 18, some 19, some 20, some 21, some 22, some 23, some 24, some 25, some 4] 15 16 ?_
    intro av hav
    all_goals iterate 6 refine qP ?_
    all_goals first | refine qU 17 ?_ | (refine qS 17 ?_ ?_ <;> intro hg2_5 <;> try (cases hg2_5; done))
    all_goals iterate 2 refine qP ?_
    all_goals first
    | (
      refine qL_cons ?_
      intro R hR
      refine sm ?_
      refine ⟨sS_len _, ⟨by omega, by omega⟩, ?_⟩
      rw [take_all (by omega)]
      refine hR _ ?_
      clear hR R)
    | refine qP ?_
    all_goals iterate 2 refine qP ?_
    all_goals first
    | (
      refine qL_cons ?_
      intro R hR
      refine sm ?_
      refine ⟨sS_len _, ⟨by omega, by omega⟩, ?_⟩
      rw [take_all (by omega)]
      refine hR _ ?_
      clear hR R)
    | refine qP ?_
    all_goals first
    | (
      refine qL_cons ?_
      intro R hR
      refine sm ?_
      refine call_fun (eqStringS_spec L L) [] ?_ (.inl rfl) ?_
      · exact ⟨.inl rfl, ⟨.inl rfl, trivial⟩⟩
      refine sm ?_
      refine hR _ ?_
      clear hR R)
    | refine qP ?_
    all_goals iterate 2 refine qP ?_
    all_goals refine qE ?_
    all_goals clear  hav av)
  all_goals first
  | fail_if_success with_reducible refine ret_fun (t := 4) ?_ ?_
  | (
    refine ret_fun (t := 4) ?_ (fun _ => rfl)
    first
    | exact cl
    | (
      try refine sm ?_
      all_goals (
       simp)))

end
section
attribute [local go_sem] tsz9 tsz22 tsz27 tfld27 tsz24 tfld24 tel22 toNat_cast sS_len und9 addNat
theorem intactB (L : List ByteArray) (n : Nat) (h : L.length = n + room n) (hn : n ≤ 1000000) : Fun Try.prog 35 [.d (.sp n (L.map sS)), .d (.sp n (L.map sS))] (.d (.bool true)) := by
  refine Fun.of ?_ rfl rfl
  refine Spec.of (fn := Try.f35) Try.func35 rfl (by kernel_rfl) (rs := [.tmp 4]) rfl 1 (by simp [Try.f35]) rfl (by simp) ?_
  intro hreal
  rintro ⟨P, T, L0, w0, ι0, C0, U0⟩ hP hT hU
  subst hP hT
  refine st ?_
  have hroom := room_le (n)
  all_goals first
  | fail_if_success with_reducible refine atR 0 ?_
  | (
    refine rg 0 [] [some 4] 1 ?_
    all_goals refine qP ?_
    all_goals refine qE ?_)
  all_goals first
  | fail_if_success with_reducible refine atR 1 ?_
  | (
    refine rg 1 [] [some 6, some 7, some 8, some 9, some 10, some 11, some 5] 7 ?_
    all_goals iterate 4 refine qP ?_
    all_goals (
      refine qL_cons ?_
      intro R hR
      refine sm ?_
      refine call_fun (roomBehind_spec (n) (by omega)) [] ?_ (.inl rfl) ?_
      · exact ⟨.inl rfl, trivial⟩
      refine sm ?_
      all_goals (refine hR _ ?_; clear hR R))
    all_goals (
      refine qL_cons ?_
      intro R hR
      refine sm ?_
      rw [wrap64 (by omega) (by omega)]
      all_goals (refine hR _ ?_; clear hR R))
    all_goals refine qP ?_
    all_goals refine qE ?_)
  all_goals first
  | fail_if_success with_reducible refine atR 2 ?_
  | (
    refine rgD 2 [] [some 12, some 13, some 14, some 15, some 16, some 17, some 18, some 19, some 20, some 21, some 22, some 23, some 24, some 25, some 4] 15 16 ?_
    intro av hav
    all_goals iterate 6 refine qP ?_
    all_goals first | refine qU 17 ?_ | (refine qS 17 ?_ ?_ <;> intro hg2_5 <;> try (cases hg2_5; done))
    all_goals iterate 2 refine qP ?_
    all_goals first
    | (
      refine qL_cons ?_
      intro R hR
      refine sm ?_
      refine ⟨sS_len _, ⟨by omega, by omega⟩, ?_⟩
      rw [take_all (by omega)]
      refine hR _ ?_
      clear hR R)
    | refine qP ?_
    all_goals iterate 2 refine qP ?_
    all_goals first
    | (
      refine qL_cons ?_
      intro R hR
      refine sm ?_
      refine ⟨sS_len _, ⟨by omega, by omega⟩, ?_⟩
      rw [take_all (by omega)]
      refine hR _ ?_
      clear hR R)
    | refine qP ?_
    all_goals first
    | (
      refine qL_cons ?_
      intro R hR
      refine sm ?_
      refine call_fun (eqStringS_spec L L) [] ?_ (.inl rfl) ?_
      · exact ⟨.inl rfl, ⟨.inl rfl, trivial⟩⟩
      refine sm ?_
      refine hR _ ?_
      clear hR R)
    | refine qP ?_
    all_goals iterate 2 refine qP ?_
    all_goals refine qE ?_
    all_goals clear  hav av)
  all_goals first
  | fail_if_success with_reducible refine ret_fun (t := 4) ?_ ?_
  | (
    refine ret_fun (t := 4) ?_ (fun _ => rfl)
    first
    | exact cl
    | (
      try refine sm ?_
      all_goals (
       simp)))

end
end Go.Proofs.Ytmlbdicaeefomaa
