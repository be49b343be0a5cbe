/- the bytes of a name; what a name is; names that ascend; what a name is, of the reference; ReviewOk of both; sizes; a copy of strings; a copy of a review; strings are as they were; the law FnExactReviewOk over data; a line of a text, of both; the first string for which something holds; what a text is, of both. No condition. -/
import Derived.Test.YtkbnkcdaiahoeaaDoorAwY
import Derived.Test.YtkbnkcdaiahoeaaDoorProg
import Derived.KernelRfl
import Derived.Sort.Walk0
namespace Go.Proofs.YtkbnkcdaiahoeaaDoor
open Go Go.RowKit
set_option maxRecDepth 100000
set_option linter.unusedSimpArgs false
set_option linter.unusedVariables false
attribute [local go_sem] List.size_toArray Int.toNat_zero Nat.sub_zero size_mk top_val eq_self datL X.dat u8min u8max i64min i64max stepT gdO aop ev lit litOk putF fzX_false putO upd app List.contains_nil List.elem_nil aBin aInt aStr aBool aLen lenTy aBuiltin aLoad aTake aTakeX aStore splice aSlice aBd look_cons look_nil lookC_cons lookC_nil by_s by_C start_s start_C X.cells X.cell List.all_cons List.all_nil Bool.and_self Bool.not_true Bool.not_false false_implies true_implies forall_const and_true true_and and_self implies_true not_false_eq_true Nat.zero_add Nat.add_zero List.getD_cons_zero List.getD_cons_succ List.map_cons List.map_nil Option.bind_some Option.map_some Option.map_none List.getElem?_cons_zero List.getElem?_cons_succ List.length_cons List.length_nil List.drop_zero List.drop_succ_cons List.take_succ_cons List.take_zero List.cons_append List.nil_append List.append_nil D.of List.length_map all_get_map Option.isSome_some and_false false_and Nat.lt_add_one Nat.zero_lt_succ decide_true decide_false aPart Nat.lt_irrefl fzX litEs List.contains_cons List.elem_cons Bool.true_or Bool.or_true Bool.false_or Bool.or_false beq_self_eq_true
theorem und9 : Tryd.prog.underlying 9 = some .string := by kernel_rfl
theorem tsz9 : tsz Tryd.prog 9 = some (false, 1) := by kernel_rfl
theorem tel39 : telem Tryd.prog 39 = some (9, 1, 16) := by kernel_rfl
def withinB (a b c : Int) : Bool := decide (b ≤ a) && decide (a ≤ c)
def nbB (c : UInt8) : Bool := (decide (97 ≤ (c.toNat : Int)) && decide ((c.toNat : Int) ≤ 122)) || (decide (48 ≤ (c.toNat : Int)) && decide ((c.toNat : Int) ≤ 57))
section
theorem within_spec (a b c : Int) : Fun Tryd.prog 49 [.d (.int .i64 a), .d (.int .i64 b), .d (.int .i64 c)] (.d (.bool (withinB a b c))) := by
  refine Fun.of ?_ rfl rfl
  refine Spec.of (fn := Tryd.f49) Tryd.func49 rfl (by kernel_rfl) (rs := [.tmp 6]) rfl 1 (by simp [Tryd.f49]) rfl (by simp) ?_
  intro hreal
  rintro ⟨P, T, L0, w0, ι0, C0, U0⟩ hP hT hU
  subst hP hT
  refine st ?_
  all_goals first
  | fail_if_success with_reducible refine atR 0 ?_
  | (
    refine rg 0 [] [some 6] 1 ?_
    all_goals refine qP ?_
    all_goals refine qE ?_)
  all_goals first
  | fail_if_success with_reducible refine atR 1 ?_
  | (
    refine rg 1 [] [some 7, some 8, some 9, some 10, some 11, some 12, some 13, some 14, some 6] 9 ?_
    all_goals iterate 4 refine qP ?_
    all_goals first | refine qU 10 ?_ | (refine qS 10 ?_ ?_ <;> intro hg1_3 <;> try (cases hg1_3; done))
    all_goals iterate 5 refine qP ?_
    all_goals refine qE ?_)
  all_goals first
  | fail_if_success with_reducible refine ret_fun (t := 6) ?_ ?_
  | (
    refine ret_fun (t := 6) ?_ (fun _ => rfl)
    first
    | exact cl
    | (
      try refine sm ?_
      all_goals (
       simp [withinB, *] <;> omega)))

end
section
theorem isNameByte_spec (c : UInt8) : Fun Tryd.prog 62 [.d (.int .u8 c.toNat)] (.d (.bool (nbB c))) := by
  refine Fun.of ?_ rfl rfl
  refine Spec.of (fn := Tryd.f62) Tryd.func62 rfl (by kernel_rfl) (rs := [.tmp 2]) rfl 1 (by simp [Tryd.f62]) rfl (by simp) ?_
  intro hreal
  rintro ⟨P, T, L0, w0, ι0, C0, U0⟩ hP hT hU
  subst hP hT
  refine st ?_
  all_goals first
  | fail_if_success with_reducible refine atR 0 ?_
  | (
    refine rg 0 [] [some 2] 1 ?_
    all_goals refine qP ?_
    all_goals refine qE ?_)
  all_goals first
  | fail_if_success with_reducible refine atR 1 ?_
  | (
    refine rg 1 [] [some 3, some 4, some 5, some 6, some 7, some 8, some 9, some 10, some 11, some 12, some 13, some 14, some 15, some 16, some 2] 15 ?_
    all_goals iterate 3 refine qP ?_
    all_goals first | refine qU 5 ?_ | (refine qS 5 ?_ ?_ <;> intro hg1_2 <;> try (cases hg1_2; done))
    all_goals iterate 4 refine qP ?_
    all_goals first | refine qU 9 ?_ | (refine qS 9 ?_ ?_ <;> intro hg1_6 <;> try (cases hg1_6; done))
    all_goals iterate 3 refine qP ?_
    all_goals first | refine qU 12 ?_ | (refine qS 12 ?_ ?_ <;> intro hg1_9 <;> try (cases hg1_9; done))
    all_goals iterate 5 refine qP ?_
    all_goals refine qE ?_)
  all_goals first
  | fail_if_success with_reducible refine ret_fun (t := 2) ?_ ?_
  | (
    refine ret_fun (t := 2) ?_ (fun _ => rfl)
    first
    | exact cl
    | (
      try refine sm ?_
      all_goals (
       simp [nbB, *] <;> omega)))

end
end Go.Proofs.YtkbnkcdaiahoeaaDoor
namespace Go.Proofs.YtkbnkcdaiahoeaaDoor
open Go Go.RowKit
set_option maxRecDepth 100000
set_option linter.unusedSimpArgs false
set_option linter.unusedVariables false
attribute [local go_sem] List.size_toArray Int.toNat_zero Nat.sub_zero size_mk top_val eq_self datL X.dat u8min u8max i64min i64max stepT gdO aop ev lit litOk putF fzX_false putO upd app List.contains_nil List.elem_nil aBin aInt aStr aBool aLen lenTy aBuiltin aLoad aTake aTakeX aStore splice aSlice aBd look_cons look_nil lookC_cons lookC_nil by_s by_C start_s start_C X.cells X.cell List.all_cons List.all_nil Bool.and_self Bool.not_true Bool.not_false false_implies true_implies forall_const and_true true_and and_self implies_true not_false_eq_true Nat.zero_add Nat.add_zero List.getD_cons_zero List.getD_cons_succ List.map_cons List.map_nil Option.bind_some Option.map_some Option.map_none List.getElem?_cons_zero List.getElem?_cons_succ List.length_cons List.length_nil List.drop_zero List.drop_succ_cons List.take_succ_cons List.take_zero List.cons_append List.nil_append List.append_nil D.of List.length_map all_get_map Option.isSome_some and_false false_and Nat.lt_add_one Nat.zero_lt_succ decide_true decide_false aPart Nat.lt_irrefl fzX litEs List.contains_cons List.elem_cons Bool.true_or Bool.or_true Bool.false_or Bool.or_false beq_self_eq_true
def nmB (s : ByteArray) : Bool := s.data.toList.all nbB && withinB s.size 1 6
theorem size_data (s : ByteArray) : s.size = s.data.size := rfl
section
attribute [local go_sem] und9 toNat_cast
theorem nm_end {s : ByteArray} {i : Nat} (h : ∀ j c, j < i → s.data[j]? = some c → nbB c = true) (hi : s.size ≤ i) : withinB (s.size : Int) 1 6 = nmB s := by
  have : s.data.toList.all nbB = true := by
    rw [List.all_eq_true]
    intro c hc
    obtain ⟨j, hj, rfl⟩ := List.mem_iff_getElem.1 hc
    have hj' : j < s.data.size := by simpa using hj
    refine h j _ (by have : s.size = s.data.size := rfl; omega) ?_
    simp
  simp [nmB, this]
theorem nm_bad {s : ByteArray} {i : Nat} {c : UInt8} (h : s.data[i]? = some c) (hc : nbB c = false) : false = nmB s := by
  have : s.data.toList.all nbB = false := by
    rw [List.all_eq_false]
    refine ⟨c, ?_, by simp [hc]⟩
    rw [Array.mem_toList_iff]; exact Array.mem_of_getElem? h
  simp [nmB, this]
theorem nameOk_spec (s : ByteArray) : Fun Tryd.prog 34 [.d (.str s)] (.d (.bool (nmB s))) := by
  refine Fun.of ?_ rfl rfl
  refine Spec.of (fn := Tryd.f34) Tryd.func34 rfl (by kernel_rfl) (rs := [.tmp 2]) rfl 1 (by simp [Tryd.f34]) rfl (by simp) ?_
  intro hreal
  rintro ⟨P, T, L0, w0, ι0, C0, U0⟩ hP hT hU
  subst hP hT
  refine st ?_
  have hlen : s.size ≤ 9223372036854775807 := D.real_str (X.real_d (hreal _ (by simp)))
  all_goals first
  | fail_if_success with_reducible refine atR 0 ?_
  | (
    refine rg 0 [] [some 2] 1 ?_
    all_goals refine qP ?_
    all_goals refine qE ?_)
  all_goals first
  | fail_if_success with_reducible refine atR 1 ?_
  | (
    refine rg 1 [] [some 4, some 5, some 6] 3 ?_
    all_goals iterate 3 refine qP ?_
    all_goals refine qE ?_)
  all_goals first
  | fail_if_success with_reducible refine AW.rounds (α := Nat) ?_ ?_ ?_ ?_ ?_ ?_ ?_ ?_
  | (
    refine AW.rounds (α := Nat) (fun i => i ≤ s.size ∧ ∀ j c, j < i → s.data[j]? = some c → nbB c = true) (fun i => St.by [(0, .d (.str s)), (5, .d (.int .i64 s.size)), (6, .d (.int .i64 i))] []) (fun i => s.size - i) 1 0 ?_ ?_ ?_
    · exact ⟨by omega, fun j c hj => by omega⟩
    · refine Vw.to [] _ _ (vU hU) ?_ ?_ (by simp [tauL])
      · refine vd (vd (vw_d ?_ (trivial)))
        · first
          | exact cl2
          | (
            refine sm2 ?_
            all_goals (
             rfl))
      · trivial
    · intro i hJ
      refine st ?_
      all_goals first
      | fail_if_success with_reducible refine atR 2 ?_
      | (
        refine rg 2 [] [some 7] 1 ?_
        all_goals refine qP ?_
        all_goals refine qE ?_)
      all_goals first
      | fail_if_success with_reducible refine atC 7 ?_
      | (
        refine cn 7 ?_ ?_ <;> intro hc7 <;> try (cases hc7; done)
        all_goals refine st ?_)
      all_goals first
      | fail_if_success with_reducible refine atR 3 ?_
      | (
        refine rg 3 [] [some 8, some 3] 2 ?_
        all_goals iterate 2 refine qP ?_
        all_goals refine qE ?_)
      all_goals first
      | fail_if_success with_reducible refine atR 4 ?_
      | (
        refine rg 4 [] [some 9, some 10, some 11, some 12, some 13] 5 ?_
        all_goals iterate 2 refine qP ?_
        all_goals (
          refine qL_cons ?_
          intro R hR
          refine sm ?_
          refine ⟨⟨by omega, by omega⟩, ?_⟩
          intro c hcc
          all_goals (refine hR _ ?_; clear hR R))
        all_goals (
          refine qL_cons ?_
          intro R hR
          refine sm ?_
          refine call_fun (isNameByte_spec c) [] ?_ (.inl rfl) ?_
          · exact ⟨.inl rfl, trivial⟩
          refine sm ?_
          all_goals (refine hR _ ?_; clear hR R))
        all_goals refine qP ?_
        all_goals refine qE ?_)
      all_goals first
      | fail_if_success with_reducible refine atC 13 ?_
      | (
        refine cn 13 ?_ ?_ <;> intro hc13 <;> try (cases hc13; done)
        all_goals refine st ?_)
      all_goals first
      | fail_if_success with_reducible refine atR 5 ?_
      | (
        refine rg 5 [] [some 2] 1 ?_
        all_goals refine qP ?_
        all_goals refine qE ?_)
      all_goals first
      | fail_if_success with_reducible refine atR 6 ?_
      | (
        refine rg 6 [] [some 14, some 6] 2 ?_
        all_goals (
          refine qL_cons ?_
          intro R hR
          refine sm ?_
          rw [wrap64 (by omega) (by omega)]
          all_goals (refine hR _ ?_; clear hR R))
        all_goals refine qP ?_
        all_goals refine qE ?_)
      all_goals first
      | fail_if_success with_reducible refine atR 7 ?_
      | (
        refine rg 7 [] [some 15, some 16, some 17, some 2] 4 ?_
        all_goals iterate 2 refine qP ?_
        all_goals (
          refine qL_cons ?_
          intro R hR
          refine sm ?_
          refine call_fun (within_spec s.size 1 6) [] ?_ (.inl rfl) ?_
          · exact ⟨.inl rfl, ⟨.inl rfl, ⟨.inl rfl, trivial⟩⟩⟩
          refine sm ?_
          all_goals (refine hR _ ?_; clear hR R))
        all_goals refine qP ?_
        all_goals refine qE ?_)
      all_goals first
      | fail_if_success with_reducible refine ⟨i + 1, ?_, ?_, ?_⟩
      | (
        refine ⟨i + 1, ?_, ?_, ?_⟩
        · refine ⟨by omega, fun j d hj hd => ?_⟩
          by_cases hji : j = i
          · subst hji; rw [hcc] at hd; cases hd; simpa using hc13
          · exact hJ.2 j d (by omega) hd
        · omega
        · refine Vw.to [] _ _ (vU hU) ?_ ?_ (by simp [tauL])
          · refine vd (vd (vw_d ?_ (trivial)))
            · first
              | exact cl2
              | (
                refine sm2 ?_
                all_goals (
                 congr 1))
          · trivial)
      all_goals first
      | fail_if_success with_reducible refine ret_fun (t := 2) ?_ ?_
      | (
        refine ret_fun (t := 2) ?_ (fun _ => rfl)
        first
        | exact cl
        | (
          try refine sm ?_
          all_goals (
           first
             | (congr 1; congr 1; exact nm_end hJ.2 (by omega))
             | (congr 1; congr 1; exact nm_bad hcc (by simpa using hc13))))))

end
end Go.Proofs.YtkbnkcdaiahoeaaDoor
namespace Go.Proofs.YtkbnkcdaiahoeaaDoor
open Go Go.RowKit
set_option maxRecDepth 100000
set_option linter.unusedSimpArgs false
set_option linter.unusedVariables false
attribute [local go_sem] List.size_toArray Int.toNat_zero Nat.sub_zero size_mk top_val eq_self datL X.dat u8min u8max i64min i64max stepT gdO aop ev lit litOk putF fzX_false putO upd app List.contains_nil List.elem_nil aBin aInt aStr aBool aLen lenTy aBuiltin aLoad aTake aTakeX aStore splice aSlice aBd look_cons look_nil lookC_cons lookC_nil by_s by_C start_s start_C X.cells X.cell List.all_cons List.all_nil Bool.and_self Bool.not_true Bool.not_false false_implies true_implies forall_const and_true true_and and_self implies_true not_false_eq_true Nat.zero_add Nat.add_zero List.getD_cons_zero List.getD_cons_succ List.map_cons List.map_nil Option.bind_some Option.map_some Option.map_none List.getElem?_cons_zero List.getElem?_cons_succ List.length_cons List.length_nil List.drop_zero List.drop_succ_cons List.take_succ_cons List.take_zero List.cons_append List.nil_append List.append_nil D.of List.length_map all_get_map Option.isSome_some and_false false_and Nat.lt_add_one Nat.zero_lt_succ decide_true decide_false aPart Nat.lt_irrefl fzX litEs List.contains_cons List.elem_cons Bool.true_or Bool.or_true Bool.false_or Bool.or_false beq_self_eq_true
def sS (s : ByteArray) : List D := [.str s]
abbrev strs (l : List ByteArray) : D := .of sS l
def okAt (ss : List ByteArray) (i : Nat) : Bool := match ss[i]? with
  | some s => nmB s && (i == 0 || match ss[i - 1]? with | some r => strLt r s | none => true)
  | none => true
def naB (ss : List ByteArray) : Bool := (List.range ss.length).all (okAt ss)
theorem na_end {ss : List ByteArray} {i : Nat} (h : ∀ j, j < i → okAt ss j = true) (hi : ss.length ≤ i) : naB ss = true := by
  unfold naB
  rw [List.all_eq_true]
  intro j hj
  exact h j (by have := List.mem_range.1 hj; omega)
theorem na_bad {ss : List ByteArray} {i : Nat} (hi : i < ss.length) (h : okAt ss i = false) : naB ss = false := by
  unfold naB
  rw [List.all_eq_false]
  exact ⟨i, List.mem_range.2 hi, by simp [h]⟩
section
attribute [local go_sem] tel39 tsz9 toNat_cast sS
end
end Go.Proofs.YtkbnkcdaiahoeaaDoor
namespace Go.Proofs.YtkbnkcdaiahoeaaDoor
open Go Go.RowKit
set_option maxRecDepth 100000
set_option linter.unusedSimpArgs false
set_option linter.unusedVariables false
attribute [local go_sem] List.size_toArray Int.toNat_zero Nat.sub_zero size_mk top_val eq_self datL X.dat u8min u8max i64min i64max stepT gdO aop ev lit litOk putF fzX_false putO upd app List.contains_nil List.elem_nil aBin aInt aStr aBool aLen lenTy aBuiltin aLoad aTake aTakeX aStore splice aSlice aBd look_cons look_nil lookC_cons lookC_nil by_s by_C start_s start_C X.cells X.cell List.all_cons List.all_nil Bool.and_self Bool.not_true Bool.not_false false_implies true_implies forall_const and_true true_and and_self implies_true not_false_eq_true Nat.zero_add Nat.add_zero List.getD_cons_zero List.getD_cons_succ List.map_cons List.map_nil Option.bind_some Option.map_some Option.map_none List.getElem?_cons_zero List.getElem?_cons_succ List.length_cons List.length_nil List.drop_zero List.drop_succ_cons List.take_succ_cons List.take_zero List.cons_append List.nil_append List.append_nil D.of List.length_map all_get_map Option.isSome_some and_false false_and Nat.lt_add_one Nat.zero_lt_succ decide_true decide_false aPart Nat.lt_irrefl fzX litEs List.contains_cons List.elem_cons Bool.true_or Bool.or_true Bool.false_or Bool.or_false beq_self_eq_true
section
theorem l1In_spec (a b c : Int) : Fun Tryd.prog 74 [.d (.int .i64 a), .d (.int .i64 b), .d (.int .i64 c)] (.d (.bool (withinB a b c))) := by
  refine Fun.of ?_ rfl rfl
  refine Spec.of (fn := Tryd.f74) Tryd.func74 rfl (by kernel_rfl) (rs := [.tmp 6]) rfl 1 (by simp [Tryd.f74]) rfl (by simp) ?_
  intro hreal
  rintro ⟨P, T, L0, w0, ι0, C0, U0⟩ hP hT hU
  subst hP hT
  refine st ?_
  all_goals first
  | fail_if_success with_reducible refine atR 0 ?_
  | (
    refine rg 0 [] [some 6] 1 ?_
    all_goals refine qP ?_
    all_goals refine qE ?_)
  all_goals first
  | fail_if_success with_reducible refine atR 1 ?_
  | (
    refine rg 1 [] [some 7, some 8, some 9, some 10, some 11, some 12, some 13, some 14, some 6] 9 ?_
    all_goals iterate 4 refine qP ?_
    all_goals first | refine qU 10 ?_ | (refine qS 10 ?_ ?_ <;> intro hg1_3 <;> try (cases hg1_3; done))
    all_goals iterate 5 refine qP ?_
    all_goals refine qE ?_)
  all_goals first
  | fail_if_success with_reducible refine ret_fun (t := 6) ?_ ?_
  | (
    refine ret_fun (t := 6) ?_ (fun _ => rfl)
    first
    | exact cl
    | (
      try refine sm ?_
      all_goals (
       simp [withinB, *] <;> omega)))

end
section
attribute [local go_sem] und9 toNat_cast
theorem l4Name_spec (s : ByteArray) : Fun Tryd.prog 61 [.d (.str s)] (.d (.bool (nmB s))) := by
  refine Fun.of ?_ rfl rfl
  refine Spec.of (fn := Tryd.f61) Tryd.func61 rfl (by kernel_rfl) (rs := [.tmp 2]) rfl 1 (by simp [Tryd.f61]) rfl (by simp) ?_
  intro hreal
  rintro ⟨P, T, L0, w0, ι0, C0, U0⟩ hP hT hU
  subst hP hT
  refine st ?_
  have hlen : s.size ≤ 9223372036854775807 := D.real_str (X.real_d (hreal _ (by simp)))
  all_goals first
  | fail_if_success with_reducible refine atR 0 ?_
  | (
    refine rg 0 [] [some 2] 1 ?_
    all_goals refine qP ?_
    all_goals refine qE ?_)
  all_goals first
  | fail_if_success with_reducible refine atR 1 ?_
  | (
    refine rg 1 [] [some 3] 1 ?_
    all_goals refine qP ?_
    all_goals refine qE ?_)
  all_goals first
  | fail_if_success with_reducible refine AW.rounds (α := Nat) ?_ ?_ ?_ ?_ ?_ ?_ ?_ ?_
  | (
    refine AW.rounds (α := Nat) (fun i => i ≤ s.size ∧ ∀ j c, j < i → s.data[j]? = some c → nbB c = true) (fun i => St.by [(0, .d (.str s)), (3, .d (.int .i64 i))] []) (fun i => s.size - i) 1 0 ?_ ?_ ?_
    · exact ⟨by omega, fun j c hj => by omega⟩
    · refine Vw.to [] _ _ (vU hU) ?_ ?_ (by simp [tauL])
      · refine vd (vw_d ?_ (trivial))
        · first
          | exact cl2
          | (
            refine sm2 ?_
            all_goals (
             rfl))
      · trivial
    · intro i hJ
      refine st ?_
      all_goals first
      | fail_if_success with_reducible refine atR 2 ?_
      | (
        refine rg 2 [] [some 4, some 5, some 6, some 7] 4 ?_
        all_goals iterate 4 refine qP ?_
        all_goals refine qE ?_)
      all_goals first
      | fail_if_success with_reducible refine atC 7 ?_
      | (
        refine cn 7 ?_ ?_ <;> intro hc7 <;> try (cases hc7; done)
        all_goals refine st ?_)
      all_goals first
      | fail_if_success with_reducible refine atR 4 ?_
      | (
        refine rg 4 [] [some 10, some 11, some 12, some 13, some 14, some 15, some 16, some 17, some 18, some 19, some 20, some 21, some 22, some 23, some 24, some 25, some 26, some 27, some 28, some 29, some 30, some 31] 22 ?_
        all_goals iterate 2 refine qP ?_
        all_goals (
          refine qL_cons ?_
          intro R hR
          refine sm ?_
          refine ⟨⟨by omega, by omega⟩, ?_⟩
          intro c2 hcc2
          all_goals (refine hR _ ?_; clear hR R))
        all_goals iterate 2 refine qP ?_
        all_goals first | refine qU 14 ?_ | (refine qS 14 ?_ ?_ <;> intro hg4_4 <;> try (cases hg4_4; done))
        all_goals iterate 2 refine qP ?_
        all_goals first
        | (
          refine qL_cons ?_
          intro R hR
          refine sm ?_
          refine ⟨⟨by omega, by omega⟩, ?_⟩
          intro c7 hcc7
          refine hR _ ?_
          clear hR R)
        | refine qP ?_
        all_goals iterate 3 refine qP ?_
        all_goals first | refine qU 20 ?_ | (refine qS 20 ?_ ?_ <;> intro hg4_10 <;> try (cases hg4_10; done))
        all_goals iterate 2 refine qP ?_
        all_goals first
        | (
          refine qL_cons ?_
          intro R hR
          refine sm ?_
          refine ⟨⟨by omega, by omega⟩, ?_⟩
          intro c13 hcc13
          refine hR _ ?_
          clear hR R)
        | refine qP ?_
        all_goals iterate 2 refine qP ?_
        all_goals first | refine qU 25 ?_ | (refine qS 25 ?_ ?_ <;> intro hg4_15 <;> try (cases hg4_15; done))
        all_goals iterate 2 refine qP ?_
        all_goals first
        | (
          refine qL_cons ?_
          intro R hR
          refine sm ?_
          refine ⟨⟨by omega, by omega⟩, ?_⟩
          intro c18 hcc18
          refine hR _ ?_
          clear hR R)
        | refine qP ?_
        all_goals iterate 3 refine qP ?_
        all_goals refine qE ?_)
      all_goals first
      | fail_if_success with_reducible refine atC 31 ?_
      | (
        refine cn 31 ?_ ?_ <;> intro hc31 <;> try (cases hc31; done)
        all_goals refine st ?_)
      all_goals first
      | fail_if_success with_reducible refine atR 5 ?_
      | (
        refine rg 5 [] [some 2] 1 ?_
        all_goals refine qP ?_
        all_goals refine qE ?_)
      all_goals first
      | fail_if_success with_reducible refine atR 3 ?_
      | (
        refine rg 3 [] [some 8, some 9, some 3] 3 ?_
        all_goals refine qP ?_
        all_goals (
          refine qL_cons ?_
          intro R hR
          refine sm ?_
          rw [wrap64 (by omega) (by omega)]
          all_goals (refine hR _ ?_; clear hR R))
        all_goals refine qP ?_
        all_goals refine qE ?_)
      all_goals first
      | fail_if_success with_reducible refine atR 6 ?_
      | (
        refine rg 6 [] [some 32, some 33, some 34, some 2] 4 ?_
        all_goals iterate 2 refine qP ?_
        all_goals (
          refine qL_cons ?_
          intro R hR
          refine sm ?_
          refine call_fun (l1In_spec s.size 1 6) [] ?_ (.inl rfl) ?_
          · exact ⟨.inl rfl, ⟨.inl rfl, ⟨.inl rfl, trivial⟩⟩⟩
          refine sm ?_
          all_goals (refine hR _ ?_; clear hR R))
        all_goals refine qP ?_
        all_goals refine qE ?_)
      all_goals first
      | fail_if_success with_reducible refine ⟨i + 1, ?_, ?_, ?_⟩
      | (
        refine ⟨i + 1, ?_, ?_, ?_⟩
        · refine ⟨by omega, fun j d hj hd => ?_⟩
          by_cases hji : j = i
          · subst hji; rw [hcc2] at hd; cases hd; simp_all [nbB] <;> omega
          · exact hJ.2 j d (by omega) hd
        · omega
        · refine Vw.to [] _ _ (vU hU) ?_ ?_ (by simp [tauL])
          · refine vd (vw_d ?_ (trivial))
            · first
              | exact cl2
              | (
                refine sm2 ?_
                all_goals (
                 congr 1))
          · trivial)
      all_goals first
      | fail_if_success with_reducible refine ret_fun (t := 2) ?_ ?_
      | (
        refine ret_fun (t := 2) ?_ (fun _ => rfl)
        first
        | exact cl
        | (
          try refine sm ?_
          all_goals (
           first
             | (congr 1; congr 1; exact nm_end hJ.2 (by omega))
             | (congr 1; congr 1; refine nm_bad hcc2 ?_; simp_all [nbB] <;> omega)))))

end
end Go.Proofs.YtkbnkcdaiahoeaaDoor
namespace Go.Proofs.YtkbnkcdaiahoeaaDoor
open Go Go.RowKit
set_option maxRecDepth 100000
set_option linter.unusedSimpArgs false
set_option linter.unusedVariables false
attribute [local go_sem] List.size_toArray Int.toNat_zero Nat.sub_zero size_mk top_val eq_self datL X.dat u8min u8max i64min i64max stepT gdO aop ev lit litOk putF fzX_false putO upd app List.contains_nil List.elem_nil aBin aInt aStr aBool aLen lenTy aBuiltin aLoad aTake aTakeX aStore splice aSlice aBd look_cons look_nil lookC_cons lookC_nil by_s by_C start_s start_C X.cells X.cell List.all_cons List.all_nil Bool.and_self Bool.not_true Bool.not_false false_implies true_implies forall_const and_true true_and and_self implies_true not_false_eq_true Nat.zero_add Nat.add_zero List.getD_cons_zero List.getD_cons_succ List.map_cons List.map_nil Option.bind_some Option.map_some Option.map_none List.getElem?_cons_zero List.getElem?_cons_succ List.length_cons List.length_nil List.drop_zero List.drop_succ_cons List.take_succ_cons List.take_zero List.cons_append List.nil_append List.append_nil D.of List.length_map all_get_map Option.isSome_some and_false false_and Nat.lt_add_one Nat.zero_lt_succ decide_true decide_false aPart Nat.lt_irrefl fzX litEs List.contains_cons List.elem_cons Bool.true_or Bool.or_true Bool.false_or Bool.or_false beq_self_eq_true
theorem tsz39 : tsz Tryd.prog 39 = some (false, 1) := by kernel_rfl
structure Rv where
  br : ByteArray
  into : ByteArray
  by_ : ByteArray
  yes : List ByteArray
def rvB (v : Rv) : Bool := nmB v.br && nmB v.into && nmB v.by_ && !decide (v.br = v.into) && decide ((v.yes.length : Int) ≤ 5) && naB v.yes
section
attribute [local go_sem] tsz9 tsz39 tel39 toNat_cast sS und9
theorem strLt_of {a b : ByteArray} (h1 : strLt b a = false) (h2 : b ≠ a) : strLt a b = true := by
  unfold strLt at *
  simp only [bytesLess_eq, decide_eq_true_eq, decide_eq_false_iff_not] at *
  have hne : b.toList ≠ a.toList := by
    intro h
    have := toList_beq b a
    rw [h] at this
    simp at this
    exact h2 this
  rcases Decidable.em (a.toList < b.toList) with h | h
  · exact h
  · exact absurd (List.le_antisymm (List.not_lt.1 h) (List.not_lt.1 h1)) hne
theorem strLt_irrefl (a : ByteArray) : strLt a a = false := by
  unfold strLt
  simp only [bytesLess_eq, decide_eq_false_iff_not]
  exact List.lt_irrefl _
theorem strLt_asymm {a b : ByteArray} (h : strLt b a = true) : strLt a b = false := by
  unfold strLt at *
  simp only [bytesLess_eq, decide_eq_true_eq, decide_eq_false_iff_not] at *
  exact fun h' => List.lt_irrefl _ (List.lt_trans h h')
theorem ok1 {ss : List ByteArray} {i : Nat} {x : ByteArray} (hx : ss[i]? = some x) (hn : nmB x = true) (hi : i = 0) : okAt ss i = true := by
  subst hi; simp [okAt, hx, hn]
theorem ok2 {ss : List ByteArray} {i : Nat} {x y r : ByteArray} (hx : ss[i]? = some x) (hn : nmB x = true) (hi : 0 < i) (hy : ss[i]? = some y) (hr : ss[i - 1]? = some r) (h1 : strLt y r = false) (h2 : y ≠ r) : okAt ss i = true := by
  rw [hx] at hy; cases hy
  simp [okAt, hx, hn, hr, strLt_of h1 h2]
theorem bad1 {ss : List ByteArray} {i : Nat} {x : ByteArray} (hx : ss[i]? = some x) (hn : nmB x = false) : okAt ss i = false := by
  simp [okAt, hx, hn]
theorem bad2 {ss : List ByteArray} {i : Nat} {x y r : ByteArray} (hx : ss[i]? = some x) (hi : 0 < i) (hy : ss[i]? = some y) (hr : ss[i - 1]? = some r) (h1 : strLt y r = true ∨ y = r) : okAt ss i = false := by
  rw [hx] at hy; cases hy
  have : strLt r x = false := by
    rcases h1 with h | h
    · exact strLt_asymm h
    · rw [h]; exact strLt_irrefl r
  simp [okAt, hx, hr, this, show i ≠ 0 by omega]
end
section
attribute [local go_sem] tsz9 tsz39 tel39 toNat_cast sS und9
end
section
attribute [local go_sem] tsz9 tsz39 tel39 toNat_cast sS und9
end
end Go.Proofs.YtkbnkcdaiahoeaaDoor
namespace Go.Proofs.YtkbnkcdaiahoeaaDoor
open Go Go.RowKit
set_option maxRecDepth 100000
set_option linter.unusedSimpArgs false
set_option linter.unusedVariables false
attribute [local go_sem] List.size_toArray Int.toNat_zero Nat.sub_zero size_mk top_val eq_self datL X.dat u8min u8max i64min i64max stepT gdO aop ev lit litOk putF fzX_false putO upd app List.contains_nil List.elem_nil aBin aInt aStr aBool aLen lenTy aBuiltin aLoad aTake aTakeX aStore splice aSlice aBd look_cons look_nil lookC_cons lookC_nil by_s by_C start_s start_C X.cells X.cell List.all_cons List.all_nil Bool.and_self Bool.not_true Bool.not_false false_implies true_implies forall_const and_true true_and and_self implies_true not_false_eq_true Nat.zero_add Nat.add_zero List.getD_cons_zero List.getD_cons_succ List.map_cons List.map_nil Option.bind_some Option.map_some Option.map_none List.getElem?_cons_zero List.getElem?_cons_succ List.length_cons List.length_nil List.drop_zero List.drop_succ_cons List.take_succ_cons List.take_zero List.cons_append List.nil_append List.append_nil D.of List.length_map all_get_map Option.isSome_some and_false false_and Nat.lt_add_one Nat.zero_lt_succ decide_true decide_false aPart Nat.lt_irrefl fzX litEs List.contains_cons List.elem_cons Bool.true_or Bool.or_true Bool.false_or Bool.or_false beq_self_eq_true
def szGo : List ByteArray → Int → Int
  | [], x => x
  | s :: r, x => if x - s.size < 0 then -1 else szGo r (x - s.size)
def szS (l : List ByteArray) (left : Int) : Int := if left - l.length < 0 then -1 else szGo l (left - l.length)
theorem szGo_le : ∀ (l : List ByteArray) (x : Int), 0 ≤ x → -1 ≤ szGo l x ∧ szGo l x ≤ x
  | [], x, h => by simp [szGo]; omega
  | s :: r, x, h => by
    simp only [szGo]
    split
    · omega
    · have := szGo_le r (x - s.size) (by omega); omega
theorem szS_le {l : List ByteArray} {left : Int} (h : 0 ≤ left) : -1 ≤ szS l left ∧ szS l left ≤ left := by
  unfold szS
  split
  · omega
  · have := szGo_le l (left - l.length) (by omega); omega
theorem szS_len {l : List ByteArray} {left : Int} (h0 : 0 ≤ left) (h : 0 ≤ szS l left) : (l.length : Int) ≤ left := by
  unfold szS at h
  split at h
  · omega
  · omega
theorem szGo_drop {l : List ByteArray} {i : Nat} {s : ByteArray} (h : l[i]? = some s) (x : Int) : szGo (l.drop i) x = if x - s.size < 0 then -1 else szGo (l.drop (i + 1)) (x - s.size) := by
  obtain ⟨hi, rfl⟩ := List.getElem?_eq_some_iff.1 h
  rw [List.drop_eq_getElem_cons hi]
  rfl
def szRv (v : Rv) (left : Int) : Int :=
  let a := left - v.br.size
  if a < 0 then -1 else
  let b := a - v.into.size
  if b < 0 then -1 else
  let c := b - v.by_.size
  if c < 0 then -1 else
  let d := szS v.yes c
  if d < 0 then -1 else d
section
attribute [local go_sem] tsz9 tsz39 tel39 toNat_cast sS und9
theorem szStringS_spec (ss : List ByteArray) (left : Int) (hl : 0 ≤ left) (hl2 : left ≤ 1000000) : Fun Tryd.prog 46 [.d (strs ss), .d (.int .i64 left)] (.d (.int .i64 (szS ss left))) := by
  refine Fun.of ?_ rfl rfl
  refine Spec.of (fn := Tryd.f46) Tryd.func46 rfl (by kernel_rfl) (rs := [.tmp 4]) rfl 1 (by simp [Tryd.f46]) rfl (by simp) ?_
  intro hreal
  rintro ⟨P, T, L0, w0, ι0, C0, U0⟩ hP hT hU
  subst hP hT
  refine st ?_
  have hlen : ss.length ≤ 9223372036854775807 := by simpa using D.real_len (X.real_d (hreal (.d (strs ss)) (by simp)) : D.real (.sl (ss.map sS)))
  have hszs : ∀ s ∈ ss, s.size ≤ 9223372036854775807 := fun s hs => D.real_str (D.real_sl (X.real_d (hreal (.d (strs ss)) (by simp)) : D.real (.sl (ss.map sS))) (sS s) (List.mem_map_of_mem hs) (.str s) (by simp [sS]))
  all_goals first
  | fail_if_success with_reducible refine atR 0 ?_
  | (
    refine rg 0 [] [some 4] 1 ?_
    all_goals refine qP ?_
    all_goals refine qE ?_)
  all_goals first
  | fail_if_success with_reducible refine atR 1 ?_
  | (
    refine rg 1 [] [some 6, some 7, some 8, some 9, some 1] 5 ?_
    all_goals iterate 3 refine qP ?_
    all_goals (
      refine qL_cons ?_
      intro R hR
      refine sm ?_
      rw [wrap64 (by omega) (by omega)]
      all_goals (refine hR _ ?_; clear hR R))
    all_goals refine qP ?_
    all_goals refine qE ?_)
  all_goals first
  | fail_if_success with_reducible refine atR 2 ?_
  | (
    refine rg 2 [] [some 10, some 11] 2 ?_
    all_goals iterate 2 refine qP ?_
    all_goals refine qE ?_)
  all_goals first
  | fail_if_success with_reducible refine atC 11 ?_
  | (
    refine cn 11 ?_ ?_ <;> intro hc11 <;> try (cases hc11; done)
    all_goals refine st ?_)
  all_goals first
  | fail_if_success with_reducible refine atR 3 ?_
  | (
    refine rg 3 [] [some 4] 1 ?_
    all_goals refine qP ?_
    all_goals refine qE ?_)
  all_goals first
  | fail_if_success with_reducible refine atR 4 ?_
  | (
    refine rg 4 [] [some 5] 1 ?_
    all_goals refine qP ?_
    all_goals refine qE ?_)
  all_goals first
  | fail_if_success with_reducible refine AW.rounds (α := (Nat × Int)) ?_ ?_ ?_ ?_ ?_ ?_ ?_ ?_
  | (
    refine AW.rounds (α := (Nat × Int)) (fun p => p.1 ≤ ss.length ∧ 0 ≤ p.2 ∧ p.2 ≤ 1000000 ∧ szS ss left = szGo (ss.drop p.1) p.2) (fun p => St.by [(0, .d (strs ss)), (1, .d (.int .i64 p.2)), (5, .d (.int .i64 p.1))] []) (fun p => ss.length - p.1) 1 (0, left - ss.length) ?_ ?_ ?_
    · refine ⟨by simp, by simp only; omega, by simp only; omega, ?_⟩
      simp only [List.drop_zero, szS]
      rw [if_neg (by omega)]
    · refine Vw.to [] _ _ (vU hU) ?_ ?_ (by simp [tauL])
      · refine vd (vd (vw_d ?_ (trivial)))
        · first
          | exact cl2
          | (
            refine sm2 ?_
            all_goals (
             rfl))
      · trivial
    · intro p hJ
      refine st ?_
      obtain ⟨hJ1, hJ2, hJ3, hJ4⟩ := hJ
      all_goals first
      | fail_if_success with_reducible refine atR 5 ?_
      | (
        refine rg 5 [] [some 12, some 13, some 14, some 15] 4 ?_
        all_goals iterate 4 refine qP ?_
        all_goals refine qE ?_)
      all_goals first
      | fail_if_success with_reducible refine atC 15 ?_
      | (
        refine cn 15 ?_ ?_ <;> intro hc15 <;> try (cases hc15; done)
        all_goals refine st ?_)
      all_goals first
      | fail_if_success with_reducible refine atR 7 ?_
      | (
        refine rg 7 [] [some 18, some 19, some 20, some 21, some 22, some 23, some 24, some 1] 8 ?_
        all_goals iterate 3 refine qP ?_
        all_goals (
          refine qL_cons ?_
          intro R hR
          refine sm ?_
          refine ⟨⟨by omega, by omega⟩, ?_⟩
          intro x3 hx3
          have hz3 : x3.size ≤ 9223372036854775807 := hszs x3 (List.mem_of_getElem? hx3)
          all_goals (refine hR _ ?_; clear hR R))
        all_goals iterate 2 refine qP ?_
        all_goals (
          refine qL_cons ?_
          intro R hR
          refine sm ?_
          rw [wrap64 (by omega) (by omega)]
          all_goals (refine hR _ ?_; clear hR R))
        all_goals refine qP ?_
        all_goals refine qE ?_)
      all_goals first
      | fail_if_success with_reducible refine atR 8 ?_
      | (
        refine rg 8 [] [some 25, some 26] 2 ?_
        all_goals iterate 2 refine qP ?_
        all_goals refine qE ?_)
      all_goals first
      | fail_if_success with_reducible refine atC 26 ?_
      | (
        refine cn 26 ?_ ?_ <;> intro hc26 <;> try (cases hc26; done)
        all_goals refine st ?_)
      all_goals first
      | fail_if_success with_reducible refine atR 9 ?_
      | (
        refine rg 9 [] [some 4] 1 ?_
        all_goals refine qP ?_
        all_goals refine qE ?_)
      all_goals first
      | fail_if_success with_reducible refine atR 6 ?_
      | (
        refine rg 6 [] [some 16, some 17, some 5] 3 ?_
        all_goals refine qP ?_
        all_goals (
          refine qL_cons ?_
          intro R hR
          refine sm ?_
          rw [wrap64 (by omega) (by omega)]
          all_goals (refine hR _ ?_; clear hR R))
        all_goals refine qP ?_
        all_goals refine qE ?_)
      all_goals first
      | fail_if_success with_reducible refine atR 10 ?_
      | (
        refine rg 10 [] [some 27, some 4] 2 ?_
        all_goals iterate 2 refine qP ?_
        all_goals refine qE ?_)
      all_goals first
      | fail_if_success with_reducible refine ⟨(p.1 + 1, p.2 - x3.size), ?_, ?_, ?_⟩
      | (
        refine ⟨(p.1 + 1, p.2 - x3.size), ?_, ?_, ?_⟩
        · refine ⟨by simp only; omega, by simp only; omega, by simp only; omega, ?_⟩
          rw [hJ4, szGo_drop hx3, if_neg (by omega)]
        · simp only; omega
        · refine Vw.to [] _ _ (vU hU) ?_ ?_ (by simp [tauL])
          · refine vd (vd (vw_d ?_ (trivial)))
            · first
              | exact cl2
              | (
                refine sm2 ?_
                all_goals (
                 congr 1))
          · trivial)
      all_goals first
      | fail_if_success with_reducible refine ret_fun (t := 4) ?_ ?_
      | (
        refine ret_fun (t := 4) ?_ (fun _ => rfl)
        first
        | exact cl
        | (
          try refine sm ?_
          all_goals (
           first
             | (congr 2; done)
             | (congr 2; rw [hJ4, szGo_drop hx3, if_pos (by omega)]; done)
             | (congr 2; rw [hJ4, List.drop_of_length_le (by omega)]; rfl)))))
  all_goals first
  | fail_if_success with_reducible refine ret_fun (t := 4) ?_ ?_
  | (
    refine ret_fun (t := 4) ?_ (fun _ => rfl)
    first
    | exact cl
    | (
      try refine sm ?_
      all_goals (
       first
         | (congr 2; unfold szS; rw [if_pos (by omega)]; done))))

end
section
attribute [local go_sem] tsz9 tsz39 tel39 toNat_cast sS und9
theorem tmod6 (n : Nat) : (n : Int).tmod 6 = ((n % 6 : Nat) : Int) := rfl
theorem tmod3 (n : Nat) : (n : Int).tmod 3 = ((n % 3 : Nat) : Int) := rfl
def room (n : Nat) : Nat := if n % 6 = 5 then 0 else if n % 3 = 0 then 1 else n
end
section
attribute [local go_sem] tsz9 tsz39 tel39 toNat_cast sS und9
theorem roomBehind_spec (n : Nat) (hn : n ≤ 9223372036854775807) : Fun Tryd.prog 31 [.d (.int .i64 n)] (.d (.int .i64 (room n))) := by
  refine Fun.of ?_ rfl rfl
  refine Spec.of (fn := Tryd.f31) Tryd.func31 rfl (by kernel_rfl) (rs := [.tmp 2]) rfl 1 (by simp [Tryd.f31]) rfl (by simp) ?_
  intro hreal
  rintro ⟨P, T, L0, w0, ι0, C0, U0⟩ hP hT hU
  subst hP hT
  refine st ?_
  all_goals first
  | fail_if_success with_reducible refine atR 0 ?_
  | (
    refine rg 0 [] [some 2] 1 ?_
    all_goals refine qP ?_
    all_goals refine qE ?_)
  all_goals first
  | fail_if_success with_reducible refine atR 1 ?_
  | (
    refine rg 1 [] [some 3, some 4, some 5] 3 ?_
    all_goals refine qP ?_
    all_goals (
      refine qL_cons ?_
      intro R hR
      refine sm ?_
      rw [tmod6]
      rw [wrap64 (by omega) (by omega)]
      all_goals (refine hR _ ?_; clear hR R))
    all_goals refine qP ?_
    all_goals refine qE ?_)
  all_goals first
  | fail_if_success with_reducible refine atC 5 ?_
  | (
    refine cn 5 ?_ ?_ <;> intro hc5 <;> try (cases hc5; done)
    all_goals refine st ?_)
  all_goals first
  | fail_if_success with_reducible refine atR 2 ?_
  | (
    refine rg 2 [] [some 2] 1 ?_
    all_goals refine qP ?_
    all_goals refine qE ?_)
  all_goals first
  | fail_if_success with_reducible refine atR 3 ?_
  | (
    refine rg 3 [] [some 6, some 7, some 8] 3 ?_
    all_goals refine qP ?_
    all_goals (
      refine qL_cons ?_
      intro R hR
      refine sm ?_
      rw [tmod3]
      rw [wrap64 (by omega) (by omega)]
      all_goals (refine hR _ ?_; clear hR R))
    all_goals refine qP ?_
    all_goals refine qE ?_)
  all_goals first
  | fail_if_success with_reducible refine atC 8 ?_
  | (
    refine cn 8 ?_ ?_ <;> intro hc8 <;> try (cases hc8; done)
    all_goals refine st ?_)
  all_goals first
  | fail_if_success with_reducible refine atR 4 ?_
  | (
    refine rg 4 [] [some 2] 1 ?_
    all_goals refine qP ?_
    all_goals refine qE ?_)
  all_goals first
  | fail_if_success with_reducible refine atR 5 ?_
  | (
    refine rg 5 [] [some 9, some 2] 2 ?_
    all_goals iterate 2 refine qP ?_
    all_goals refine qE ?_)
  all_goals first
  | fail_if_success with_reducible refine ret_fun (t := 2) ?_ ?_
  | (
    refine ret_fun (t := 2) ?_ (fun _ => rfl)
    first
    | exact cl
    | (
      try refine sm ?_
      all_goals (
       congr 2; simp only [room]; split <;> (try split) <;> omega)))

end
end Go.Proofs.YtkbnkcdaiahoeaaDoor
namespace Go.Proofs.YtkbnkcdaiahoeaaDoor
open Go Go.RowKit
set_option maxRecDepth 100000
set_option linter.unusedSimpArgs false
set_option linter.unusedVariables false
attribute [local go_sem] List.size_toArray Int.toNat_zero Nat.sub_zero size_mk top_val eq_self datL X.dat u8min u8max i64min i64max stepT gdO aop ev lit litOk putF fzX_false putO upd app List.contains_nil List.elem_nil aBin aInt aStr aBool aLen lenTy aBuiltin aLoad aTake aTakeX aStore splice aSlice aBd look_cons look_nil lookC_cons lookC_nil by_s by_C start_s start_C X.cells X.cell List.all_cons List.all_nil Bool.and_self Bool.not_true Bool.not_false false_implies true_implies forall_const and_true true_and and_self implies_true not_false_eq_true Nat.zero_add Nat.add_zero List.getD_cons_zero List.getD_cons_succ List.map_cons List.map_nil Option.bind_some Option.map_some Option.map_none List.getElem?_cons_zero List.getElem?_cons_succ List.length_cons List.length_nil List.drop_zero List.drop_succ_cons List.take_succ_cons List.take_zero List.cons_append List.nil_append List.append_nil D.of List.length_map all_get_map Option.isSome_some and_false false_and Nat.lt_add_one Nat.zero_lt_succ decide_true decide_false aPart Nat.lt_irrefl fzX litEs List.contains_cons List.elem_cons Bool.true_or Bool.or_true Bool.false_or Bool.or_false beq_self_eq_true
def spare : ByteArray := { data := #[126, 115, 112, 97, 114, 101, 126] }
def toS (ss : List ByteArray) (bare : Bool) : X := if bare && decide (ss.length = 0) then .nil else .d (spOf ss.length ((ss ++ List.replicate (room ss.length) spare).map sS))
theorem z9 : (tzero Tryd.prog 9).bind datL = some [.str ByteArray.empty] := by kernel_rfl
theorem toS_end {ss l : List ByteArray} (h1 : l.length = ss.length + room ss.length) (h2 : ∀ j, j < ss.length → l[j]? = ss[j]?) (h3 : ∀ j, ss.length ≤ j → j < ss.length + room ss.length → l[j]? = some spare) : l = ss ++ List.replicate (room ss.length) spare := by
  apply List.ext_getElem?
  intro j
  by_cases hj : j < ss.length
  · rw [h2 j hj, List.getElem?_append_left hj]
  · by_cases hj2 : j < ss.length + room ss.length
    · rw [h3 j (by omega) hj2, List.getElem?_append_right (by omega), List.getElem?_replicate]
      simp; omega
    · rw [List.getElem?_eq_none (by omega), List.getElem?_eq_none (by simp; omega)]
theorem room_le (n : Nat) : room n ≤ n + 1 := by unfold room; split <;> (try split) <;> omega
section
attribute [local go_sem] tsz9 tsz39 tel39 toNat_cast sS und9 addNat z9
theorem toStringS_spec (ss : List ByteArray) (bare : Bool) (hss : ss.length ≤ 1000000) : Fun Tryd.prog 48 [.d (strs ss), .d (.bool bare)] (toS ss bare) := by
  refine Fun.of ?_ rfl (by unfold toS; split <;> rfl)
  refine Spec.of (fn := Tryd.f48) Tryd.func48 rfl (by kernel_rfl) (rs := [.tmp 4]) rfl 1 (by simp [Tryd.f48]) rfl (by simp) ?_
  intro hreal
  rintro ⟨P, T, L0, w0, ι0, C0, U0⟩ hP hT hU
  subst hP hT
  refine st ?_
  have hroom := room_le ss.length
  all_goals first
  | fail_if_success with_reducible refine atR 0 ?_
  | (
    refine rg 0 [] [some 4] 1 ?_
    all_goals refine qP ?_
    all_goals refine qE ?_)
  all_goals first
  | fail_if_success with_reducible refine atR 1 ?_
  | (
    refine rg 1 [] [some 8, some 9, some 10, some 11, some 12, some 13] 6 ?_
    all_goals iterate 2 refine qP ?_
    all_goals first | refine qU 9 ?_ | (refine qS 9 ?_ ?_ <;> intro hg1_1 <;> try (cases hg1_1; done))
    all_goals iterate 4 refine qP ?_
    all_goals refine qE ?_)
  all_goals first
  | fail_if_success with_reducible refine atC 13 ?_
  | (
    refine cn 13 ?_ ?_ <;> intro hc13 <;> try (cases hc13; done)
    all_goals refine st ?_)
  all_goals first
  | fail_if_success with_reducible refine atR 2 ?_
  | (
    refine rg 2 [] [some 4] 1 ?_
    all_goals refine qP ?_
    all_goals refine qE ?_)
  all_goals first
  | fail_if_success with_reducible refine atR 3 ?_
  | (
    refine rg 3 [] [some 14, some 15, some 16, some 17, some 18, some 19, some 20, some 5] 8 ?_
    all_goals iterate 4 refine qP ?_
    all_goals (
      refine qL_cons ?_
      intro R hR
      refine sm ?_
      refine call_fun (roomBehind_spec ss.length (by omega)) [] ?_ (.inl rfl) ?_
      · exact ⟨.inl rfl, trivial⟩
      refine sm ?_
      all_goals (refine hR _ ?_; clear hR R))
    all_goals (
      refine qL_cons ?_
      intro R hR
      refine sm ?_
      rw [wrap64 (by omega) (by omega)]
      all_goals (refine hR _ ?_; clear hR R))
    all_goals (
      refine qL_cons ?_
      intro R hR
      refine sm ?_
      refine ⟨⟨by omega, by omega, by omega, by omega⟩, ?_⟩
      all_goals (refine hR _ ?_; clear hR R))
    all_goals refine qP ?_
    all_goals refine qE ?_)
  all_goals first
  | fail_if_success with_reducible refine atR 4 ?_
  | (
    refine rg 4 [] [some 6] 1 ?_
    all_goals refine qP ?_
    all_goals refine qE ?_)
  all_goals first
  | fail_if_success with_reducible refine AW.rounds (α := (Nat × List ByteArray)) ?_ ?_ ?_ ?_ ?_ ?_ ?_ ?_
  | (
    refine AW.rounds (α := (Nat × List ByteArray)) (fun p => p.1 ≤ ss.length ∧ p.2.length = ss.length + room ss.length ∧ ∀ j, j < p.1 → p.2[j]? = ss[j]?) (fun p => St.by [(0, .d (strs ss)), (5, .vec 14 1 0 (ss.length + room ss.length)), (6, .d (.int .i64 p.1))] [(14, .vec 9 1 (p.2.map sS))]) (fun p => ss.length - p.1) 15 (0, List.replicate (ss.length + room ss.length) ByteArray.empty) ?_ ?_ ?_
    · refine ⟨by simp, by simp, fun j hj => ?_⟩
      simp only at hj; omega
    · refine Vw.to [] _ _ (vU hU) ?_ ?_ (by simp [tauL])
      · refine vd (vx (vw_d ?_ (trivial)))
        · first
          | exact cl2
          | (
            refine sm2 ?_
            all_goals (
             rfl))
      · refine ⟨⟨by simp, rfl, ?_⟩, trivial⟩
        refine sm3 ?_
        simp [sS]
    · intro p hJ
      refine st ?_
      obtain ⟨hJ1, hJ2, hJ3⟩ := hJ
      all_goals first
      | fail_if_success with_reducible refine atR 5 ?_
      | (
        refine rg 5 [] [some 21, some 22, some 23, some 24] 4 ?_
        all_goals iterate 4 refine qP ?_
        all_goals refine qE ?_)
      all_goals first
      | fail_if_success with_reducible refine atC 24 ?_
      | (
        refine cn 24 ?_ ?_ <;> intro hc24 <;> try (cases hc24; done)
        all_goals refine st ?_)
      all_goals first
      | fail_if_success with_reducible refine atR 7 ?_
      | (
        refine rg 7 [] [some 27, some 28, some 29, some 30, some 31, some 32, some 33, none] 8 ?_
        all_goals iterate 4 refine qP ?_
        all_goals (
          refine qL_cons ?_
          intro R hR
          refine sm ?_
          refine ⟨⟨by omega, by omega⟩, ?_⟩
          intro x4 hx4
          all_goals (refine hR _ ?_; clear hR R))
        all_goals refine qP ?_
        all_goals (
          refine qL_cons ?_
          intro R hR
          refine sm ?_
          refine ⟨⟨by omega, by omega⟩, ?_⟩
          all_goals (refine hR _ ?_; clear hR R))
        all_goals (
          refine qL_cons ?_
          intro R hR
          refine sm ?_
          refine ⟨by omega, ?_⟩
          intro x7 hx7
          all_goals (refine hR _ ?_; clear hR R))
        all_goals refine qE ?_)
      all_goals first
      | fail_if_success with_reducible refine atR 6 ?_
      | (
        refine rg 6 [] [some 25, some 26, some 6] 3 ?_
        all_goals refine qP ?_
        all_goals (
          refine qL_cons ?_
          intro R hR
          refine sm ?_
          rw [wrap64 (by omega) (by omega)]
          all_goals (refine hR _ ?_; clear hR R))
        all_goals refine qP ?_
        all_goals refine qE ?_)
      all_goals first
      | fail_if_success with_reducible refine ⟨(p.1 + 1, p.2.set p.1 x4), ?_, ?_, ?_⟩
      | (
        refine ⟨(p.1 + 1, p.2.set p.1 x4), ?_, ?_, ?_⟩
        · refine ⟨by simp only; omega, by simp only [List.length_set]; omega, fun j hj => ?_⟩
          simp only at hj ⊢
          by_cases hjp : j = p.1
          · subst hjp; rw [List.getElem?_set_self (by omega), hx4]
          · rw [List.getElem?_set_ne (Ne.symm hjp)]; exact hJ3 j (by omega)
        · simp only; omega
        · refine Vw.to [] _ _ (vU hU) ?_ ?_ (by simp [tauL])
          · refine vd (vx (vw_d ?_ (trivial)))
            · first
              | exact cl2
              | (
                refine sm2 ?_
                all_goals (
                 congr 1))
          · refine ⟨⟨by simp, rfl, ?_⟩, trivial⟩
            refine sm3 ?_
            simp [List.map_set, sS])
      all_goals first
      | fail_if_success with_reducible refine atR 8 ?_
      | (
        refine rg 8 [] [some 34, some 35, some 7] 3 ?_
        all_goals iterate 3 refine qP ?_
        all_goals refine qE ?_)
      all_goals first
      | fail_if_success with_reducible refine AW.rounds (α := (Nat × List ByteArray)) ?_ ?_ ?_ ?_ ?_ ?_ ?_ ?_
      | (
        refine AW.rounds (α := (Nat × List ByteArray)) (fun q => ss.length ≤ q.1 ∧ q.1 ≤ ss.length + room ss.length ∧ q.2.length = ss.length + room ss.length ∧ (∀ j, j < ss.length → q.2[j]? = ss[j]?) ∧ (∀ j, ss.length ≤ j → j < q.1 → q.2[j]? = some spare)) (fun q => St.by [(0, .d (strs ss)), (5, .vec 14 1 0 (ss.length + room ss.length)), (7, .d (.int .i64 q.1))] [(14, .vec 9 1 (q.2.map sS))]) (fun q => ss.length + room ss.length - q.1) 15 (ss.length, p.2) ?_ ?_ ?_
        · refine ⟨by simp, by simp, by simp only; omega, fun j hj => hJ3 j (by omega), fun j h1 h2 => ?_⟩
          simp only at h2; omega
        · refine Vw.to [] _ _ (vU hU) ?_ ?_ (by simp [tauL])
          · refine vd (vx (vd (trivial)))
          · refine ⟨⟨by simp, rfl, ?_⟩, trivial⟩
            exact cl4
        · intro q hJ
          refine st ?_
          obtain ⟨hK1, hK2, hK3, hK4, hK5⟩ := hJ
          all_goals first
          | fail_if_success with_reducible refine atR 9 ?_
          | (
            refine rg 9 [] [some 36, some 37, some 38, some 39] 4 ?_
            all_goals iterate 2 refine qP ?_
            all_goals (
              refine qL_cons ?_
              intro R hR
              refine sm ?_
              refine ⟨by omega, ?_⟩
              all_goals (refine hR _ ?_; clear hR R))
            all_goals refine qP ?_
            all_goals refine qE ?_)
          all_goals first
          | fail_if_success with_reducible refine atC 39 ?_
          | (
            refine cn 39 ?_ ?_ <;> intro hc39 <;> try (cases hc39; done)
            all_goals refine st ?_)
          all_goals first
          | fail_if_success with_reducible refine atR 11 ?_
          | (
            refine rg 11 [] [some 42, some 43, some 44, none] 4 ?_
            all_goals iterate 2 refine qP ?_
            all_goals (
              refine qL_cons ?_
              intro R hR
              refine sm ?_
              refine ⟨⟨by omega, by omega⟩, ?_⟩
              all_goals (refine hR _ ?_; clear hR R))
            all_goals (
              refine qL_cons ?_
              intro R hR
              refine sm ?_
              refine ⟨by omega, ?_⟩
              intro x7 hx7
              all_goals (refine hR _ ?_; clear hR R))
            all_goals refine qE ?_)
          all_goals first
          | fail_if_success with_reducible refine atR 10 ?_
          | (
            refine rg 10 [] [some 40, some 41, some 7] 3 ?_
            all_goals refine qP ?_
            all_goals (
              refine qL_cons ?_
              intro R hR
              refine sm ?_
              rw [wrap64 (by omega) (by omega)]
              all_goals (refine hR _ ?_; clear hR R))
            all_goals refine qP ?_
            all_goals refine qE ?_)
          all_goals first
          | fail_if_success with_reducible refine ⟨(q.1 + 1, q.2.set q.1 spare), ?_, ?_, ?_⟩
          | (
            refine ⟨(q.1 + 1, q.2.set q.1 spare), ?_, ?_, ?_⟩
            · refine ⟨by simp only; omega, by simp only; omega, by simp only [List.length_set]; omega, fun j hj => ?_, fun j h1 h2 => ?_⟩
              · simp only at hj ⊢
                rw [List.getElem?_set_ne (by omega)]; exact hK4 j hj
              · simp only at h1 h2 ⊢
                by_cases hjp : j = q.1
                · subst hjp; rw [List.getElem?_set_self (by omega)]
                · rw [List.getElem?_set_ne (Ne.symm hjp)]; exact hK5 j h1 (by omega)
            · simp only; omega
            · refine Vw.to [] _ _ (vU hU) ?_ ?_ (by simp [tauL])
              · refine vd (vx (vw_d ?_ (trivial)))
                · first
                  | exact cl2
                  | (
                    refine sm2 ?_
                    all_goals (
                     congr 1))
              · refine ⟨⟨by simp, rfl, ?_⟩, trivial⟩
                refine sm3 ?_
                simp [List.map_set, sS, spare])
          all_goals first
          | fail_if_success with_reducible refine atR 12 ?_
          | (
            refine rg 12 [] [some 45, some 46, some 47, some 48, some 4] 5 ?_
            all_goals iterate 3 refine qP ?_
            all_goals (
              refine qL_cons ?_
              intro R hR
              refine sm ?_
              refine ⟨⟨by omega, by omega⟩, ?_⟩
              all_goals (refine hR _ ?_; clear hR R))
            all_goals refine qP ?_
            all_goals refine qE ?_)
          all_goals (
            refine ret_frz (t := 4) 14 1 (q.2.map sS) (len := ss.length) (ty := 9) ?_ ?_ (by simp; omega) ?_
            · exact cl
            · exact cl
            · rw [toS_end hK3 hK4 (fun j h1 h2 => hK5 j h1 (by omega))]
              unfold toS
              rw [if_neg (by simp_all)])))
  all_goals first
    | (
        refine ret_fun (t := 4) ?_ (by intro V; unfold toS; split <;> rfl)
        refine sm ?_
        simp_all [toS]; done)
end
end Go.Proofs.YtkbnkcdaiahoeaaDoor
namespace Go.Proofs.YtkbnkcdaiahoeaaDoor
open Go Go.RowKit
set_option maxRecDepth 100000
set_option linter.unusedSimpArgs false
set_option linter.unusedVariables false
attribute [local go_sem] List.size_toArray Int.toNat_zero Nat.sub_zero size_mk top_val eq_self datL X.dat u8min u8max i64min i64max stepT gdO aop ev lit litOk putF fzX_false putO upd app List.contains_nil List.elem_nil aBin aInt aStr aBool aLen lenTy aBuiltin aLoad aTake aTakeX aStore splice aSlice aBd look_cons look_nil lookC_cons lookC_nil by_s by_C start_s start_C X.cells X.cell List.all_cons List.all_nil Bool.and_self Bool.not_true Bool.not_false false_implies true_implies forall_const and_true true_and and_self implies_true not_false_eq_true Nat.zero_add Nat.add_zero List.getD_cons_zero List.getD_cons_succ List.map_cons List.map_nil Option.bind_some Option.map_some Option.map_none List.getElem?_cons_zero List.getElem?_cons_succ List.length_cons List.length_nil List.drop_zero List.drop_succ_cons List.take_succ_cons List.take_zero List.cons_append List.nil_append List.append_nil D.of List.length_map all_get_map Option.isSome_some and_false false_and Nat.lt_add_one Nat.zero_lt_succ decide_true decide_false aPart Nat.lt_irrefl fzX litEs List.contains_cons List.elem_cons Bool.true_or Bool.or_true Bool.false_or Bool.or_false beq_self_eq_true
theorem toS_cases (ss : List ByteArray) (b : Bool) : toS ss b = .nil ∨ ∃ d, toS ss b = .d d := by
  unfold toS; split
  · exact .inl rfl
  · exact .inr ⟨_, rfl⟩
theorem bareL_sS (s : ByteArray) : D.bareL (sS s) = sS s := rfl
theorem toS_bare (ss : List ByteArray) (b : Bool) : (toS ss b).bare1 = .d (strs ss) := by
  unfold toS
  split
  · rename_i h
    have : ss = [] := by simp at h; exact h.2
    subst this; rfl
  · show X.d (D.bare (spOf _ _)) = _
    unfold spOf
    split
    · rename_i h
      have : List.replicate (room ss.length) spare = [] := by
        apply List.length_eq_zero_iff.1
        simp at h ⊢; omega
      simp only [this, List.append_nil, D.bare, bareLL_map, bareL_sS]; rfl
    · simp only [D.bare, bareLL_map, bareL_sS, D.of]
      congr 2
      rw [List.map_append, List.take_left' (by simp)]
def rvT (v : Rv) (b : Bool) : X := .ag [.d (.str v.br), .d (.str v.into), .d (.str v.by_), toS v.yes b]
theorem rvT_bare (v : Rv) (b : Bool) : (rvT v b).bare = .ag [.d (.str v.br), .d (.str v.into), .d (.str v.by_), .d (strs v.yes)] := by
  show X.ag [_, _, _, (toS v.yes b).bare1] = _
  rw [toS_bare]; rfl
theorem take_all {L : List ByteArray} {n : Nat} (h : L.length ≤ n) : (L.map sS).take n = L.map sS := List.take_of_length_le (by simpa using h)
theorem sS_len (L : List ByteArray) : ∀ x ∈ L.map sS, x.length = 1 := by
  intro x hx
  obtain ⟨s, -, rfl⟩ := List.mem_map.1 hx
  rfl
section
attribute [local go_sem] tsz9 tsz39 tel39 toNat_cast sS und9
end
section
attribute [local go_sem] tsz9 tsz39 tel39 toNat_cast sS und9
theorem eqStringS_spec (a b : List ByteArray) : Fun Tryd.prog 78 [.d (strs a), .d (strs b)] (.d (.bool (decide (a = b)))) := by
  refine Fun.of ?_ rfl rfl
  refine Spec.of (fn := Tryd.f78) Tryd.func78 rfl (by kernel_rfl) (rs := [.tmp 4]) rfl 1 (by simp [Tryd.f78]) rfl (by simp) ?_
  intro hreal
  rintro ⟨P, T, L0, w0, ι0, C0, U0⟩ hP hT hU
  subst hP hT
  refine st ?_
  have hla : a.length ≤ 9223372036854775807 := by simpa using D.real_len (X.real_d (hreal (.d (strs a)) (by simp)) : D.real (.sl (a.map sS)))
  all_goals first
  | fail_if_success with_reducible refine atR 0 ?_
  | (
    refine rg 0 [] [some 4] 1 ?_
    all_goals refine qP ?_
    all_goals refine qE ?_)
  all_goals first
  | fail_if_success with_reducible refine atR 1 ?_
  | (
    refine rg 1 [] [some 6, some 7, some 8, some 9, some 10] 5 ?_
    all_goals iterate 5 refine qP ?_
    all_goals refine qE ?_)
  all_goals first
  | fail_if_success with_reducible refine atC 10 ?_
  | (
    refine cn 10 ?_ ?_ <;> intro hc10 <;> try (cases hc10; done)
    all_goals refine st ?_)
  all_goals first
  | fail_if_success with_reducible refine atR 2 ?_
  | (
    refine rg 2 [] [some 4] 1 ?_
    all_goals refine qP ?_
    all_goals refine qE ?_)
  all_goals first
  | fail_if_success with_reducible refine atR 3 ?_
  | (
    refine rg 3 [] [some 5] 1 ?_
    all_goals refine qP ?_
    all_goals refine qE ?_)
  all_goals first
  | fail_if_success with_reducible refine AW.rounds (α := Nat) ?_ ?_ ?_ ?_ ?_ ?_ ?_ ?_
  | (
    refine AW.rounds (α := Nat) (fun i => i ≤ a.length ∧ a.length = b.length ∧ ∀ j, j < i → a[j]? = b[j]?) (fun i => St.by [(0, .d (strs a)), (1, .d (strs b)), (5, .d (.int .i64 i))] []) (fun i => a.length - i) 1 0 ?_ ?_ ?_
    · exact ⟨by omega, by omega, fun j hj => by omega⟩
    · refine Vw.to [] _ _ (vU hU) ?_ ?_ (by simp [tauL])
      · refine vd (vd (vw_d ?_ (trivial)))
        · first
          | exact cl2
          | (
            refine sm2 ?_
            all_goals (
             rfl))
      · trivial
    · intro i hJ
      refine st ?_
      obtain ⟨hJ1, hJ2, hJ3⟩ := hJ
      all_goals first
      | fail_if_success with_reducible refine atR 4 ?_
      | (
        refine rg 4 [] [some 11, some 12, some 13, some 14] 4 ?_
        all_goals iterate 4 refine qP ?_
        all_goals refine qE ?_)
      all_goals first
      | fail_if_success with_reducible refine atC 14 ?_
      | (
        refine cn 14 ?_ ?_ <;> intro hc14 <;> try (cases hc14; done)
        all_goals refine st ?_)
      all_goals first
      | fail_if_success with_reducible refine atR 6 ?_
      | (
        refine rgD 6 [] [some 17, some 18, some 19, some 20, some 21, some 22, some 23, some 24, some 25] 9 10 ?_
        intro av hav
        all_goals iterate 2 refine qP ?_
        all_goals (
          refine qL_cons ?_
          intro R hR
          refine sm ?_
          refine ⟨⟨by omega, by omega⟩, ?_⟩
          intro x2 hx2
          all_goals (refine hR _ ?_; clear hR R))
        all_goals iterate 3 refine qP ?_
        all_goals (
          refine qL_cons ?_
          intro R hR
          refine sm ?_
          refine ⟨⟨by omega, by omega⟩, ?_⟩
          intro x6 hx6
          all_goals (refine hR _ ?_; clear hR R))
        all_goals iterate 2 refine qP ?_
        all_goals refine qE ?_
        all_goals clear  hav av)
      all_goals first
      | fail_if_success with_reducible refine atC 25 ?_
      | (
        refine cn 25 ?_ ?_ <;> intro hc25 <;> try (cases hc25; done)
        all_goals refine st ?_)
      all_goals first
      | fail_if_success with_reducible refine atR 7 ?_
      | (
        refine rg 7 [] [some 4] 1 ?_
        all_goals refine qP ?_
        all_goals refine qE ?_)
      all_goals first
      | fail_if_success with_reducible refine atR 5 ?_
      | (
        refine rg 5 [] [some 15, some 16, some 5] 3 ?_
        all_goals refine qP ?_
        all_goals (
          refine qL_cons ?_
          intro R hR
          refine sm ?_
          rw [wrap64 (by omega) (by omega)]
          all_goals (refine hR _ ?_; clear hR R))
        all_goals refine qP ?_
        all_goals refine qE ?_)
      all_goals first
      | fail_if_success with_reducible refine atR 8 ?_
      | (
        refine rg 8 [] [some 4] 1 ?_
        all_goals refine qP ?_
        all_goals refine qE ?_)
      all_goals first
      | fail_if_success with_reducible refine ⟨i + 1, ?_, ?_, ?_⟩
      | (
        refine ⟨i + 1, ?_, ?_, ?_⟩
        · refine ⟨by omega, hJ2, fun j hj => ?_⟩
          by_cases hji : j = i
          · subst hji; simp_all
          · exact hJ3 j (by omega)
        · omega
        · refine Vw.to [] _ _ (vU hU) ?_ ?_ (by simp [tauL])
          · refine vd (vd (vw_d ?_ (trivial)))
            · first
              | exact cl2
              | (
                refine sm2 ?_
                all_goals (
                 congr 1))
          · trivial)
      all_goals first
      | fail_if_success with_reducible refine ret_fun (t := 4) ?_ ?_
      | (
        refine ret_fun (t := 4) ?_ (fun _ => rfl)
        first
        | exact cl
        | (
          try refine sm ?_
          all_goals (
           first
             | (congr 2; symm; rw [decide_eq_false_iff_not]; intro hab; subst hab; simp_all; done)
             | (congr 2; symm; rw [decide_eq_true_eq]; apply List.ext_getElem?; intro j; by_cases hj : j < i
                · exact hJ3 j hj
                · rw [List.getElem?_eq_none (by omega), List.getElem?_eq_none (by omega)])))))
  all_goals first
  | fail_if_success with_reducible refine ret_fun (t := 4) ?_ ?_
  | (
    refine ret_fun (t := 4) ?_ (fun _ => rfl)
    first
    | exact cl
    | (
      try refine sm ?_
      all_goals (
       (congr 2; symm; rw [decide_eq_false_iff_not]; intro hab; subst hab; simp_all; done))))

end
end Go.Proofs.YtkbnkcdaiahoeaaDoor
namespace Go.Proofs.YtkbnkcdaiahoeaaDoor
open Go Go.RowKit
set_option maxRecDepth 100000
set_option linter.unusedSimpArgs false
set_option linter.unusedVariables false
attribute [local go_sem] List.size_toArray Int.toNat_zero Nat.sub_zero size_mk top_val eq_self datL X.dat u8min u8max i64min i64max stepT gdO aop ev lit litOk putF fzX_false putO upd app List.contains_nil List.elem_nil aBin aInt aStr aBool aLen lenTy aBuiltin aLoad aTake aTakeX aStore splice aSlice aBd look_cons look_nil lookC_cons lookC_nil by_s by_C start_s start_C X.cells X.cell List.all_cons List.all_nil Bool.and_self Bool.not_true Bool.not_false false_implies true_implies forall_const and_true true_and and_self implies_true not_false_eq_true Nat.zero_add Nat.add_zero List.getD_cons_zero List.getD_cons_succ List.map_cons List.map_nil Option.bind_some Option.map_some Option.map_none List.getElem?_cons_zero List.getElem?_cons_succ List.length_cons List.length_nil List.drop_zero List.drop_succ_cons List.take_succ_cons List.take_zero List.cons_append List.nil_append List.append_nil D.of List.length_map all_get_map Option.isSome_some and_false false_and Nat.lt_add_one Nat.zero_lt_succ decide_true decide_false aPart Nat.lt_irrefl fzX litEs List.contains_cons List.elem_cons Bool.true_or Bool.or_true Bool.false_or Bool.or_false beq_self_eq_true
section
attribute [local go_sem] tsz9 tsz39 tel39 toNat_cast sS_len und9 addNat
theorem intactA (L : List ByteArray) (h : room L.length = 0) (hn : L.length ≤ 1000000) : Fun Tryd.prog 53 [.d (strs L), .d (strs L)] (.d (.bool true)) := by
  refine Fun.of ?_ rfl rfl
  refine Spec.of (fn := Tryd.f53) Tryd.func53 rfl (by kernel_rfl) (rs := [.tmp 4]) rfl 1 (by simp [Tryd.f53]) rfl (by simp) ?_
  intro hreal
  rintro ⟨P, T, L0, w0, ι0, C0, U0⟩ hP hT hU
  subst hP hT
  refine st ?_
  have hroom := room_le (L.length)
  all_goals first
  | fail_if_success with_reducible refine atR 0 ?_
  | (
    refine rg 0 [] [some 4] 1 ?_
    all_goals refine qP ?_
    all_goals refine qE ?_)
  all_goals first
  | fail_if_success with_reducible refine atR 1 ?_
  | (
    refine rg 1 [] [some 6, some 7, some 8, some 9, some 10, some 11, some 5] 7 ?_
    all_goals iterate 4 refine qP ?_
    all_goals (
      refine qL_cons ?_
      intro R hR
      refine sm ?_
      refine call_fun (roomBehind_spec (L.length) (by omega)) [] ?_ (.inl rfl) ?_
      · exact ⟨.inl rfl, trivial⟩
      refine sm ?_
      all_goals (refine hR _ ?_; clear hR R))
    all_goals (
      refine qL_cons ?_
      intro R hR
      refine sm ?_
      rw [wrap64 (by omega) (by omega)]
      all_goals (refine hR _ ?_; clear hR R))
    all_goals refine qP ?_
    all_goals refine qE ?_)
  all_goals first
  | fail_if_success with_reducible refine atR 2 ?_
  | (
    refine rgD 2 [] [some 12, some 13, some 14, some 15, some 16, some 17, some 18, some 19, some 20, some 21, some 22, some 23, some 24, some 25, some 4] 15 16 ?_
    intro av hav
    all_goals iterate 6 refine qP ?_
    all_goals first | refine qU 17 ?_ | (refine qS 17 ?_ ?_ <;> intro hg2_5 <;> try (cases hg2_5; done))
    all_goals iterate 2 refine qP ?_
    all_goals first
    | (
      refine qL_cons ?_
      intro R hR
      refine sm ?_
      refine ⟨sS_len _, ⟨by omega, by omega⟩, ?_⟩
      rw [take_all (by omega)]
      refine hR _ ?_
      clear hR R)
    | refine qP ?_
    all_goals iterate 2 refine qP ?_
    all_goals first
    | (
      refine qL_cons ?_
      intro R hR
      refine sm ?_
      refine ⟨sS_len _, ⟨by omega, by omega⟩, ?_⟩
      rw [take_all (by omega)]
      refine hR _ ?_
      clear hR R)
    | refine qP ?_
    all_goals first
    | (
      refine qL_cons ?_
      intro R hR
      refine sm ?_
      refine call_fun (eqStringS_spec L L) [] ?_ (.inl rfl) ?_
      · exact ⟨.inl rfl, ⟨.inl rfl, trivial⟩⟩
      refine sm ?_
      refine hR _ ?_
      clear hR R)
    | refine qP ?_
    all_goals iterate 2 refine qP ?_
    all_goals refine qE ?_
    all_goals clear  hav av)
  all_goals first
  | fail_if_success with_reducible refine ret_fun (t := 4) ?_ ?_
  | (
    refine ret_fun (t := 4) ?_ (fun _ => rfl)
    first
    | exact cl
    | (
      try refine sm ?_
      all_goals (
       simp)))

end
section
attribute [local go_sem] tsz9 tsz39 tel39 toNat_cast sS_len und9 addNat
theorem intactB (L : List ByteArray) (n : Nat) (h : L.length = n + room n) (hn : n ≤ 1000000) : Fun Tryd.prog 53 [.d (.sp n (L.map sS)), .d (.sp n (L.map sS))] (.d (.bool true)) := by
  refine Fun.of ?_ rfl rfl
  refine Spec.of (fn := Tryd.f53) Tryd.func53 rfl (by kernel_rfl) (rs := [.tmp 4]) rfl 1 (by simp [Tryd.f53]) rfl (by simp) ?_
  intro hreal
  rintro ⟨P, T, L0, w0, ι0, C0, U0⟩ hP hT hU
  subst hP hT
  refine st ?_
  have hroom := room_le (n)
  all_goals first
  | fail_if_success with_reducible refine atR 0 ?_
  | (
    refine rg 0 [] [some 4] 1 ?_
    all_goals refine qP ?_
    all_goals refine qE ?_)
  all_goals first
  | fail_if_success with_reducible refine atR 1 ?_
  | (
    refine rg 1 [] [some 6, some 7, some 8, some 9, some 10, some 11, some 5] 7 ?_
    all_goals iterate 4 refine qP ?_
    all_goals (
      refine qL_cons ?_
      intro R hR
      refine sm ?_
      refine call_fun (roomBehind_spec (n) (by omega)) [] ?_ (.inl rfl) ?_
      · exact ⟨.inl rfl, trivial⟩
      refine sm ?_
      all_goals (refine hR _ ?_; clear hR R))
    all_goals (
      refine qL_cons ?_
      intro R hR
      refine sm ?_
      rw [wrap64 (by omega) (by omega)]
      all_goals (refine hR _ ?_; clear hR R))
    all_goals refine qP ?_
    all_goals refine qE ?_)
  all_goals first
  | fail_if_success with_reducible refine atR 2 ?_
  | (
    refine rgD 2 [] [some 12, some 13, some 14, some 15, some 16, some 17, some 18, some 19, some 20, some 21, some 22, some 23, some 24, some 25, some 4] 15 16 ?_
    intro av hav
    all_goals iterate 6 refine qP ?_
    all_goals first | refine qU 17 ?_ | (refine qS 17 ?_ ?_ <;> intro hg2_5 <;> try (cases hg2_5; done))
    all_goals iterate 2 refine qP ?_
    all_goals first
    | (
      refine qL_cons ?_
      intro R hR
      refine sm ?_
      refine ⟨sS_len _, ⟨by omega, by omega⟩, ?_⟩
      rw [take_all (by omega)]
      refine hR _ ?_
      clear hR R)
    | refine qP ?_
    all_goals iterate 2 refine qP ?_
    all_goals first
    | (
      refine qL_cons ?_
      intro R hR
      refine sm ?_
      refine ⟨sS_len _, ⟨by omega, by omega⟩, ?_⟩
      rw [take_all (by omega)]
      refine hR _ ?_
      clear hR R)
    | refine qP ?_
    all_goals first
    | (
      refine qL_cons ?_
      intro R hR
      refine sm ?_
      refine call_fun (eqStringS_spec L L) [] ?_ (.inl rfl) ?_
      · exact ⟨.inl rfl, ⟨.inl rfl, trivial⟩⟩
      refine sm ?_
      refine hR _ ?_
      clear hR R)
    | refine qP ?_
    all_goals iterate 2 refine qP ?_
    all_goals refine qE ?_
    all_goals clear  hav av)
  all_goals first
  | fail_if_success with_reducible refine ret_fun (t := 4) ?_ ?_
  | (
    refine ret_fun (t := 4) ?_ (fun _ => rfl)
    first
    | exact cl
    | (
      try refine sm ?_
      all_goals (
       simp)))

end
end Go.Proofs.YtkbnkcdaiahoeaaDoor
namespace Go.Proofs.YtkbnkcdaiahoeaaDoor
open Go Go.RowKit
set_option maxRecDepth 100000
set_option linter.unusedSimpArgs false
set_option linter.unusedVariables false
attribute [local go_sem] List.size_toArray Int.toNat_zero Nat.sub_zero size_mk top_val eq_self datL X.dat u8min u8max i64min i64max stepT gdO aop ev lit litOk putF fzX_false putO upd app List.contains_nil List.elem_nil aBin aInt aStr aBool aLen lenTy aBuiltin aLoad aTake aTakeX aStore splice aSlice aBd look_cons look_nil lookC_cons lookC_nil by_s by_C start_s start_C X.cells X.cell List.all_cons List.all_nil Bool.and_self Bool.not_true Bool.not_false false_implies true_implies forall_const and_true true_and and_self implies_true not_false_eq_true Nat.zero_add Nat.add_zero List.getD_cons_zero List.getD_cons_succ List.map_cons List.map_nil Option.bind_some Option.map_some Option.map_none List.getElem?_cons_zero List.getElem?_cons_succ List.length_cons List.length_nil List.drop_zero List.drop_succ_cons List.take_succ_cons List.take_zero List.cons_append List.nil_append List.append_nil D.of List.length_map all_get_map Option.isSome_some and_false false_and Nat.lt_add_one Nat.zero_lt_succ decide_true decide_false aPart Nat.lt_irrefl fzX litEs List.contains_cons List.elem_cons Bool.true_or Bool.or_true Bool.false_or Bool.or_false beq_self_eq_true
theorem und4 : Tryd.prog.underlying 4 = some .bool := by kernel_rfl
def toD (ss : List ByteArray) : D := spOf ss.length ((ss ++ List.replicate (room ss.length) spare).map sS)
theorem toS_false (ss : List ByteArray) : toS ss false = .d (toD ss) := rfl
theorem intact_spec (ss : List ByteArray) (h : ss.length ≤ 1000000) : Fun Tryd.prog 53 [.d (toD ss), .d (toD ss)] (.d (.bool true)) := by
  unfold toD spOf
  split
  · rename_i hh
    have hr : room ss.length = 0 := by simp at hh; omega
    rw [hr, List.replicate_zero, List.append_nil]
    exact intactA ss hr h
  · exact intactB _ _ (by simp) h
theorem szRv_len {v : Rv} {left : Int} (h0 : 0 ≤ left) (h1 : left ≤ 1000000) (h : 0 ≤ szRv v left) : v.yes.length ≤ 1000000 := by
  simp only [szRv] at h
  split at h
  · omega
  split at h
  · omega
  split at h
  · omega
  split at h
  · omega
  have := szS_len (by omega) h
  omega
section
attribute [local go_sem] tsz9 tsz39 tel39 toNat_cast und9 und4 bne_self_eq_false
end
section
attribute [local go_sem] tsz9 tsz39 tel39 toNat_cast und9 und4 bne_self_eq_false rvT toS_false
end
end Go.Proofs.YtkbnkcdaiahoeaaDoor
namespace Go.Proofs.YtkbnkcdaiahoeaaDoor
open Go Go.RowKit
set_option maxRecDepth 100000
set_option linter.unusedSimpArgs false
set_option linter.unusedVariables false
attribute [local go_sem] List.size_toArray Int.toNat_zero Nat.sub_zero size_mk top_val eq_self datL X.dat u8min u8max i64min i64max stepT gdO aop ev lit litOk putF fzX_false putO upd app List.contains_nil List.elem_nil aBin aInt aStr aBool aLen lenTy aBuiltin aLoad aTake aTakeX aStore splice aSlice aBd look_cons look_nil lookC_cons lookC_nil by_s by_C start_s start_C X.cells X.cell List.all_cons List.all_nil Bool.and_self Bool.not_true Bool.not_false false_implies true_implies forall_const and_true true_and and_self implies_true not_false_eq_true Nat.zero_add Nat.add_zero List.getD_cons_zero List.getD_cons_succ List.map_cons List.map_nil Option.bind_some Option.map_some Option.map_none List.getElem?_cons_zero List.getElem?_cons_succ List.length_cons List.length_nil List.drop_zero List.drop_succ_cons List.take_succ_cons List.take_zero List.cons_append List.nil_append List.append_nil D.of List.length_map all_get_map Option.isSome_some and_false false_and Nat.lt_add_one Nat.zero_lt_succ decide_true decide_false aPart Nat.lt_irrefl fzX litEs List.contains_cons List.elem_cons Bool.true_or Bool.or_true Bool.false_or Bool.or_false beq_self_eq_true
def lbB (c : UInt8) : Bool := !decide ((c.toNat : Int) < 32) && !decide (126 < (c.toNat : Int))
def lnB (s : ByteArray) : Bool := s.data.toList.all lbB && decide ((s.size : Int) ≤ 12)
theorem ln_end {s : ByteArray} {i : Nat} (h : ∀ j c, j < i → s.data[j]? = some c → lbB c = true) (hi : s.size ≤ i) : decide ((s.size : Int) ≤ 12) = lnB s := by
  have : s.data.toList.all lbB = true := by
    rw [List.all_eq_true]
    intro c hc
    obtain ⟨j, hj, rfl⟩ := List.mem_iff_getElem.1 hc
    have hj' : j < s.data.size := by simpa using hj
    refine h j _ (by have : s.size = s.data.size := rfl; omega) ?_
    simp
  simp [lnB, this]
theorem ln_bad {s : ByteArray} {i : Nat} {c : UInt8} (h : s.data[i]? = some c) (hc : lbB c = false) : false = lnB s := by
  have : s.data.toList.all lbB = false := by
    rw [List.all_eq_false]
    refine ⟨c, ?_, by simp [hc]⟩
    rw [Array.mem_toList_iff]; exact Array.mem_of_getElem? h
  simp [lnB, this]
section
attribute [local go_sem] und9 toNat_cast
theorem lineOk_spec (s : ByteArray) : Fun Tryd.prog 76 [.d (.str s)] (.d (.bool (lnB s))) := by
  refine Fun.of ?_ rfl rfl
  refine Spec.of (fn := Tryd.f76) Tryd.func76 rfl (by kernel_rfl) (rs := [.tmp 2]) rfl 1 (by simp [Tryd.f76]) rfl (by simp) ?_
  intro hreal
  rintro ⟨P, T, L0, w0, ι0, C0, U0⟩ hP hT hU
  subst hP hT
  refine st ?_
  have hlen : s.size ≤ 9223372036854775807 := D.real_str (X.real_d (hreal _ (by simp)))
  all_goals first
  | fail_if_success with_reducible refine atR 0 ?_
  | (
    refine rg 0 [] [some 2] 1 ?_
    all_goals refine qP ?_
    all_goals refine qE ?_)
  all_goals first
  | fail_if_success with_reducible refine atR 1 ?_
  | (
    refine rg 1 [] [some 4, some 5, some 6] 3 ?_
    all_goals iterate 3 refine qP ?_
    all_goals refine qE ?_)
  all_goals first
  | fail_if_success with_reducible refine AW.rounds (α := Nat) ?_ ?_ ?_ ?_ ?_ ?_ ?_ ?_
  | (
    refine AW.rounds (α := Nat) (fun i => i ≤ s.size ∧ ∀ j c, j < i → s.data[j]? = some c → lbB c = true) (fun i => St.by [(0, .d (.str s)), (5, .d (.int .i64 s.size)), (6, .d (.int .i64 i))] []) (fun i => s.size - i) 1 0 ?_ ?_ ?_
    · exact ⟨by omega, fun j c hj => by omega⟩
    · refine Vw.to [] _ _ (vU hU) ?_ ?_ (by simp [tauL])
      · refine vd (vd (vw_d ?_ (trivial)))
        · first
          | exact cl2
          | (
            refine sm2 ?_
            all_goals (
             rfl))
      · trivial
    · intro i hJ
      refine st ?_
      all_goals first
      | fail_if_success with_reducible refine atR 2 ?_
      | (
        refine rg 2 [] [some 7] 1 ?_
        all_goals refine qP ?_
        all_goals refine qE ?_)
      all_goals first
      | fail_if_success with_reducible refine atC 7 ?_
      | (
        refine cn 7 ?_ ?_ <;> intro hc7 <;> try (cases hc7; done)
        all_goals refine st ?_)
      all_goals first
      | fail_if_success with_reducible refine atR 3 ?_
      | (
        refine rg 3 [] [some 8, some 3] 2 ?_
        all_goals iterate 2 refine qP ?_
        all_goals refine qE ?_)
      all_goals first
      | fail_if_success with_reducible refine atR 4 ?_
      | (
        refine rg 4 [] [some 9, some 10, some 11, some 12, some 13, some 14, some 15, some 16, some 17, some 18] 10 ?_
        all_goals iterate 2 refine qP ?_
        all_goals (
          refine qL_cons ?_
          intro R hR
          refine sm ?_
          refine ⟨⟨by omega, by omega⟩, ?_⟩
          intro c2 hcc2
          all_goals (refine hR _ ?_; clear hR R))
        all_goals iterate 2 refine qP ?_
        all_goals first | refine qU 13 ?_ | (refine qS 13 ?_ ?_ <;> intro hg4_4 <;> try (cases hg4_4; done))
        all_goals iterate 2 refine qP ?_
        all_goals first
        | (
          refine qL_cons ?_
          intro R hR
          refine sm ?_
          refine ⟨⟨by omega, by omega⟩, ?_⟩
          intro c7 hcc7
          refine hR _ ?_
          clear hR R)
        | refine qP ?_
        all_goals iterate 2 refine qP ?_
        all_goals refine qE ?_)
      all_goals first
      | fail_if_success with_reducible refine atC 18 ?_
      | (
        refine cn 18 ?_ ?_ <;> intro hc18 <;> try (cases hc18; done)
        all_goals refine st ?_)
      all_goals first
      | fail_if_success with_reducible refine atR 5 ?_
      | (
        refine rg 5 [] [some 2] 1 ?_
        all_goals refine qP ?_
        all_goals refine qE ?_)
      all_goals first
      | fail_if_success with_reducible refine atR 6 ?_
      | (
        refine rg 6 [] [some 19, some 6] 2 ?_
        all_goals (
          refine qL_cons ?_
          intro R hR
          refine sm ?_
          rw [wrap64 (by omega) (by omega)]
          all_goals (refine hR _ ?_; clear hR R))
        all_goals refine qP ?_
        all_goals refine qE ?_)
      all_goals first
      | fail_if_success with_reducible refine atR 7 ?_
      | (
        refine rg 7 [] [some 20, some 21, some 22, some 2] 4 ?_
        all_goals iterate 4 refine qP ?_
        all_goals refine qE ?_)
      all_goals first
      | fail_if_success with_reducible refine ⟨i + 1, ?_, ?_, ?_⟩
      | (
        refine ⟨i + 1, ?_, ?_, ?_⟩
        · refine ⟨by omega, fun j d hj hd => ?_⟩
          by_cases hji : j = i
          · subst hji; rw [hcc2] at hd; cases hd; (simp_all [lbB] <;> omega)
          · exact hJ.2 j d (by omega) hd
        · omega
        · refine Vw.to [] _ _ (vU hU) ?_ ?_ (by simp [tauL])
          · refine vd (vd (vw_d ?_ (trivial)))
            · first
              | exact cl2
              | (
                refine sm2 ?_
                all_goals (
                 congr 1))
          · trivial)
      all_goals first
      | fail_if_success with_reducible refine ret_fun (t := 2) ?_ ?_
      | (
        refine ret_fun (t := 2) ?_ (fun _ => rfl)
        first
        | exact cl
        | (
          try refine sm ?_
          all_goals (
           first
             | (congr 1; congr 1; exact ln_end hJ.2 (by omega))
             | (congr 1; congr 1; refine ln_bad hcc2 ?_; simp_all [lbB] <;> omega)))))

end
section
attribute [local go_sem] und9 toNat_cast
theorem l1Line_spec (s : ByteArray) : Fun Tryd.prog 101 [.d (.str s)] (.d (.bool (lnB s))) := by
  refine Fun.of ?_ rfl rfl
  refine Spec.of (fn := Tryd.f101) Tryd.func101 rfl (by kernel_rfl) (rs := [.tmp 2]) rfl 1 (by simp [Tryd.f101]) rfl (by simp) ?_
  intro hreal
  rintro ⟨P, T, L0, w0, ι0, C0, U0⟩ hP hT hU
  subst hP hT
  refine st ?_
  have hlen : s.size ≤ 9223372036854775807 := D.real_str (X.real_d (hreal _ (by simp)))
  all_goals first
  | fail_if_success with_reducible refine atR 0 ?_
  | (
    refine rg 0 [] [some 2] 1 ?_
    all_goals refine qP ?_
    all_goals refine qE ?_)
  all_goals first
  | fail_if_success with_reducible refine atR 1 ?_
  | (
    refine rg 1 [] [some 3] 1 ?_
    all_goals refine qP ?_
    all_goals refine qE ?_)
  all_goals first
  | fail_if_success with_reducible refine AW.rounds (α := Nat) ?_ ?_ ?_ ?_ ?_ ?_ ?_ ?_
  | (
    refine AW.rounds (α := Nat) (fun i => i ≤ s.size ∧ ∀ j c, j < i → s.data[j]? = some c → lbB c = true) (fun i => St.by [(0, .d (.str s)), (3, .d (.int .i64 i))] []) (fun i => s.size - i) 1 0 ?_ ?_ ?_
    · exact ⟨by omega, fun j c hj => by omega⟩
    · refine Vw.to [] _ _ (vU hU) ?_ ?_ (by simp [tauL])
      · refine vd (vw_d ?_ (trivial))
        · first
          | exact cl2
          | (
            refine sm2 ?_
            all_goals (
             rfl))
      · trivial
    · intro i hJ
      refine st ?_
      all_goals first
      | fail_if_success with_reducible refine atR 2 ?_
      | (
        refine rg 2 [] [some 4, some 5, some 6, some 7] 4 ?_
        all_goals iterate 4 refine qP ?_
        all_goals refine qE ?_)
      all_goals first
      | fail_if_success with_reducible refine atC 7 ?_
      | (
        refine cn 7 ?_ ?_ <;> intro hc7 <;> try (cases hc7; done)
        all_goals refine st ?_)
      all_goals first
      | fail_if_success with_reducible refine atR 4 ?_
      | (
        refine rg 4 [] [some 10, some 11, some 12, some 13, some 14, some 15, some 16, some 17, some 18, some 19] 10 ?_
        all_goals iterate 2 refine qP ?_
        all_goals (
          refine qL_cons ?_
          intro R hR
          refine sm ?_
          refine ⟨⟨by omega, by omega⟩, ?_⟩
          intro c2 hcc2
          all_goals (refine hR _ ?_; clear hR R))
        all_goals iterate 2 refine qP ?_
        all_goals first | refine qU 14 ?_ | (refine qS 14 ?_ ?_ <;> intro hg4_4 <;> try (cases hg4_4; done))
        all_goals iterate 2 refine qP ?_
        all_goals first
        | (
          refine qL_cons ?_
          intro R hR
          refine sm ?_
          refine ⟨⟨by omega, by omega⟩, ?_⟩
          intro c7 hcc7
          refine hR _ ?_
          clear hR R)
        | refine qP ?_
        all_goals iterate 2 refine qP ?_
        all_goals refine qE ?_)
      all_goals first
      | fail_if_success with_reducible refine atC 19 ?_
      | (
        refine cn 19 ?_ ?_ <;> intro hc19 <;> try (cases hc19; done)
        all_goals refine st ?_)
      all_goals first
      | fail_if_success with_reducible refine atR 5 ?_
      | (
        refine rg 5 [] [some 2] 1 ?_
        all_goals refine qP ?_
        all_goals refine qE ?_)
      all_goals first
      | fail_if_success with_reducible refine atR 3 ?_
      | (
        refine rg 3 [] [some 8, some 9, some 3] 3 ?_
        all_goals refine qP ?_
        all_goals (
          refine qL_cons ?_
          intro R hR
          refine sm ?_
          rw [wrap64 (by omega) (by omega)]
          all_goals (refine hR _ ?_; clear hR R))
        all_goals refine qP ?_
        all_goals refine qE ?_)
      all_goals first
      | fail_if_success with_reducible refine atR 6 ?_
      | (
        refine rg 6 [] [some 20, some 21, some 22, some 2] 4 ?_
        all_goals iterate 4 refine qP ?_
        all_goals refine qE ?_)
      all_goals first
      | fail_if_success with_reducible refine ⟨i + 1, ?_, ?_, ?_⟩
      | (
        refine ⟨i + 1, ?_, ?_, ?_⟩
        · refine ⟨by omega, fun j d hj hd => ?_⟩
          by_cases hji : j = i
          · subst hji; rw [hcc2] at hd; cases hd; (simp_all [lbB] <;> omega)
          · exact hJ.2 j d (by omega) hd
        · omega
        · refine Vw.to [] _ _ (vU hU) ?_ ?_ (by simp [tauL])
          · refine vd (vw_d ?_ (trivial))
            · first
              | exact cl2
              | (
                refine sm2 ?_
                all_goals (
                 congr 1))
          · trivial)
      all_goals first
      | fail_if_success with_reducible refine ret_fun (t := 2) ?_ ?_
      | (
        refine ret_fun (t := 2) ?_ (fun _ => rfl)
        first
        | exact cl
        | (
          try refine sm ?_
          all_goals (
           first
             | (congr 1; congr 1; exact ln_end hJ.2 (by omega))
             | (congr 1; congr 1; refine ln_bad hcc2 ?_; simp_all [lbB] <;> omega)))))

end
end Go.Proofs.YtkbnkcdaiahoeaaDoor
namespace Go.Proofs.YtkbnkcdaiahoeaaDoor
open Go Go.RowKit
set_option maxRecDepth 100000
set_option linter.unusedSimpArgs false
set_option linter.unusedVariables false
attribute [local go_sem] List.size_toArray Int.toNat_zero Nat.sub_zero size_mk top_val eq_self datL X.dat u8min u8max i64min i64max stepT gdO aop ev lit litOk putF fzX_false putO upd app List.contains_nil List.elem_nil aBin aInt aStr aBool aLen lenTy aBuiltin aLoad aTake aTakeX aStore splice aSlice aBd look_cons look_nil lookC_cons lookC_nil by_s by_C start_s start_C X.cells X.cell List.all_cons List.all_nil Bool.and_self Bool.not_true Bool.not_false false_implies true_implies forall_const and_true true_and and_self implies_true not_false_eq_true Nat.zero_add Nat.add_zero List.getD_cons_zero List.getD_cons_succ List.map_cons List.map_nil Option.bind_some Option.map_some Option.map_none List.getElem?_cons_zero List.getElem?_cons_succ List.length_cons List.length_nil List.drop_zero List.drop_succ_cons List.take_succ_cons List.take_zero List.cons_append List.nil_append List.append_nil D.of List.length_map all_get_map Option.isSome_some and_false false_and Nat.lt_add_one Nat.zero_lt_succ decide_true decide_false aPart Nat.lt_irrefl fzX litEs List.contains_cons List.elem_cons Bool.true_or Bool.or_true Bool.false_or Bool.or_false beq_self_eq_true
theorem tauL_nil : tauL [] = fun n => n := rfl
def txB (ss : List ByteArray) : Bool := decide ((ss.length : Int) ≤ 10) && ss.all lnB
def idxF {α : Type} (p : α → Bool) (l : List α) : Int := match l.findIdx? p with
  | some i => i
  | none => -1
theorem idxF_at {α : Type} {p : α → Bool} {l : List α} {i : Nat} {x : α} (h : l[i]? = some x) (hp : p x = true) (hb : ∀ j y, j < i → l[j]? = some y → p y = false) : idxF p l = i := by
  have : l.findIdx? p = some i := by
    obtain ⟨hi, rfl⟩ := List.getElem?_eq_some_iff.1 h
    rw [List.findIdx?_eq_some_iff_getElem]
    refine ⟨hi, hp, fun j hj => ?_⟩
    have := hb j l[j] hj (by simp)
    simp [this]
  simp [idxF, this]
theorem idxF_none {α : Type} {p : α → Bool} {l : List α} {i : Nat} (hi : l.length ≤ i) (hb : ∀ j y, j < i → l[j]? = some y → p y = false) : idxF p l = -1 := by
  have : l.findIdx? p = none := by
    rw [List.findIdx?_eq_none_iff]
    intro x hx
    obtain ⟨j, hj, rfl⟩ := List.mem_iff_getElem.1 hx
    exact hb j _ (by omega) (by simp)
  simp [idxF, this]
section
attribute [local go_sem] tsz9 tel39 toNat_cast sS und9
theorem TextOk1_spec (s : ByteArray) : Fun Tryd.prog 75 [.d (.str s)] (.d (.bool (!lnB s))) := by
  refine Fun.of ?_ rfl rfl
  refine Spec.of (fn := Tryd.f75) Tryd.func75 rfl (by kernel_rfl) (rs := [.tmp 2]) rfl 1 (by simp [Tryd.f75]) rfl (by simp) ?_
  intro hreal
  rintro ⟨P, T, L0, w0, ι0, C0, U0⟩ hP hT hU
  subst hP hT
  refine st ?_
  all_goals first
  | fail_if_success with_reducible refine atR 0 ?_
  | (
    refine rg 0 [] [some 2] 1 ?_
    all_goals refine qP ?_
    all_goals refine qE ?_)
  all_goals first
  | fail_if_success with_reducible refine atR 1 ?_
  | (
    refine rg 1 [] [some 3, some 4, some 5, some 2] 4 ?_
    all_goals refine qP ?_
    all_goals (
      refine qL_cons ?_
      intro R hR
      refine sm ?_
      refine call_fun (lineOk_spec s) [] ?_ (.inl rfl) ?_
      · exact ⟨.inl rfl, trivial⟩
      refine sm ?_
      all_goals (refine hR _ ?_; clear hR R))
    all_goals iterate 2 refine qP ?_
    all_goals refine qE ?_)
  all_goals first
  | fail_if_success with_reducible refine ret_fun (t := 2) ?_ ?_
  | (
    refine ret_fun (t := 2) ?_ (fun _ => rfl)
    first
    | exact cl
    | (
      try refine sm ?_
      all_goals (
       rfl)))

end
section
attribute [local go_sem] tsz9 tel39 toNat_cast sS und9
theorem IndexFuncS_spec (ss : List ByteArray) (fn : FuncId) (cs : List X) (p : ByteArray → Bool) (hcs : ∀ V, X.onL V cs = true) (hn : ∀ av C, aArgs av C [] cs cs) (hf : ∀ s, Fun Tryd.prog fn (.d (.str s) :: cs) (.d (.bool (p s)))) : Fun Tryd.prog 70 [.d (strs ss), .clo fn cs] (.d (.int .i64 (idxF p ss))) := by
  refine Fun.of ?_ (by simp [X.onL, X.on, hcs]) rfl
  refine Spec.of (fn := Tryd.f70) Tryd.func70 rfl (by kernel_rfl) (rs := [.tmp 4]) rfl 1 (by simp [Tryd.f70]) (by simp [X.onL, X.on, hcs]) (by simp) ?_
  intro hreal
  rintro ⟨P, T, L0, w0, ι0, C0, U0⟩ hP hT hU
  subst hP hT
  refine st ?_
  have hlen : ss.length ≤ 9223372036854775807 := by simpa using D.real_len (X.real_d (hreal (.d (strs ss)) (by simp)) : D.real (.sl (ss.map sS)))
  all_goals first
  | fail_if_success with_reducible refine atR 0 ?_
  | (
    refine rg 0 [] [some 4] 1 ?_
    all_goals refine qP ?_
    all_goals refine qE ?_)
  all_goals first
  | fail_if_success with_reducible refine atR 1 ?_
  | (
    refine rg 1 [] [some 6, some 7, some 8] 3 ?_
    all_goals iterate 3 refine qP ?_
    all_goals refine qE ?_)
  all_goals first
  | fail_if_success with_reducible refine AW.rounds (α := Nat) ?_ ?_ ?_ ?_ ?_ ?_ ?_ ?_
  | (
    refine AW.rounds (α := Nat) (fun i => i ≤ ss.length ∧ ∀ j y, j < i → ss[j]? = some y → p y = false) (fun i => St.by [(0, .d (strs ss)), (1, .clo fn cs), (7, .d (.int .i64 ss.length)), (8, .d (.int .i64 i))] []) (fun i => ss.length - i) 1 0 ?_ ?_ ?_
    · exact ⟨by omega, fun j y hj => by omega⟩
    · refine Vw.to [] _ _ (vU hU) ?_ ?_ (by simp [tauL])
      · refine vd (vw_x ?_ (by first | rfl | simp [X.on, *]) (vd (vw_d ?_ (trivial))))
        · simp only [go_sem, reduceIte, reduceCtorEq, Nat.reduceAdd, Nat.reduceEqDiff, Nat.reduceLeDiff, Nat.reduceLT, Nat.reduceSub, Int.reduceLE, Int.reduceNeg, Int.reduceLT, X.ren, tauL_nil, renL_id, tauL]
        · first
          | exact cl2
          | (
            refine sm2 ?_
            all_goals (
             rfl))
      · trivial
    · intro i hJ
      refine st ?_
      obtain ⟨hJ1, hJ2⟩ := hJ
      all_goals first
      | fail_if_success with_reducible refine atR 2 ?_
      | (
        refine rg 2 [] [some 9] 1 ?_
        all_goals refine qP ?_
        all_goals refine qE ?_)
      all_goals first
      | fail_if_success with_reducible refine atC 9 ?_
      | (
        refine cn 9 ?_ ?_ <;> intro hc9 <;> try (cases hc9; done)
        all_goals refine st ?_)
      all_goals first
      | fail_if_success with_reducible refine atR 3 ?_
      | (
        refine rg 3 [] [some 10, some 5] 2 ?_
        all_goals iterate 2 refine qP ?_
        all_goals refine qE ?_)
      all_goals first
      | fail_if_success with_reducible refine atR 4 ?_
      | (
        refine rg 4 [] [some 11, some 12, some 13, some 14, some 15, some 16] 6 ?_
        all_goals iterate 3 refine qP ?_
        all_goals (
          refine qL_cons ?_
          intro R hR
          refine sm ?_
          refine ⟨⟨by omega, by omega⟩, ?_⟩
          intro x3 hx3
          all_goals (refine hR _ ?_; clear hR R))
        all_goals refine qP ?_
        all_goals (
          refine qL_cons ?_
          intro R hR
          refine sm ?_
          refine call_fun (hf x3) [] ?_ (.inl rfl) ?_
          · exact ⟨.inl rfl, hn _ _⟩
          refine sm ?_
          all_goals (refine hR _ ?_; clear hR R))
        all_goals refine qE ?_)
      all_goals first
      | fail_if_success with_reducible refine atC 16 ?_
      | (
        refine cn 16 ?_ ?_ <;> intro hc16 <;> try (cases hc16; done)
        all_goals refine st ?_)
      all_goals first
      | fail_if_success with_reducible refine atR 5 ?_
      | (
        refine rg 5 [] [some 17, some 4] 2 ?_
        all_goals iterate 2 refine qP ?_
        all_goals refine qE ?_)
      all_goals first
      | fail_if_success with_reducible refine atR 6 ?_
      | (
        refine rg 6 [] [some 18, some 8] 2 ?_
        all_goals (
          refine qL_cons ?_
          intro R hR
          refine sm ?_
          rw [wrap64 (by omega) (by omega)]
          all_goals (refine hR _ ?_; clear hR R))
        all_goals refine qP ?_
        all_goals refine qE ?_)
      all_goals first
      | fail_if_success with_reducible refine atR 7 ?_
      | (
        refine rg 7 [] [some 4] 1 ?_
        all_goals refine qP ?_
        all_goals refine qE ?_)
      all_goals first
      | fail_if_success with_reducible refine ⟨i + 1, ?_, ?_, ?_⟩
      | (
        refine ⟨i + 1, ?_, ?_, ?_⟩
        · refine ⟨by omega, fun j y hj hy => ?_⟩
          by_cases hji : j = i
          · subst hji; rw [hx3] at hy; cases hy; assumption
          · exact hJ2 j y (by omega) hy
        · omega
        · refine Vw.to [] _ _ (vU hU) ?_ ?_ (by simp [tauL])
          · refine vd (vw_x ?_ (by first | rfl | simp [X.on, *]) (vd (vw_d ?_ (trivial))))
            · simp only [go_sem, reduceIte, reduceCtorEq, Nat.reduceAdd, Nat.reduceEqDiff, Nat.reduceLeDiff, Nat.reduceLT, Nat.reduceSub, Int.reduceLE, Int.reduceNeg, Int.reduceLT, X.ren, tauL_nil, renL_id, tauL]
            · first
              | exact cl2
              | (
                refine sm2 ?_
                all_goals (
                 congr 1))
          · trivial)
      all_goals first
      | fail_if_success with_reducible refine ret_fun (t := 4) ?_ ?_
      | (
        refine ret_fun (t := 4) ?_ (fun _ => rfl)
        first
        | exact cl
        | (
          try refine sm ?_
          all_goals (
           first
             | (congr 2; exact (idxF_at hx3 (by assumption) hJ2).symm)
             | (congr 2; exact (idxF_none (by omega) hJ2).symm)))))

end
end Go.Proofs.YtkbnkcdaiahoeaaDoor
namespace Go.Proofs.YtkbnkcdaiahoeaaDoor
open Go Go.RowKit
set_option maxRecDepth 100000
set_option linter.unusedSimpArgs false
set_option linter.unusedVariables false
attribute [local go_sem] List.size_toArray Int.toNat_zero Nat.sub_zero size_mk top_val eq_self datL X.dat u8min u8max i64min i64max stepT gdO aop ev lit litOk putF fzX_false putO upd app List.contains_nil List.elem_nil aBin aInt aStr aBool aLen lenTy aBuiltin aLoad aTake aTakeX aStore splice aSlice aBd look_cons look_nil lookC_cons lookC_nil by_s by_C start_s start_C X.cells X.cell List.all_cons List.all_nil Bool.and_self Bool.not_true Bool.not_false false_implies true_implies forall_const and_true true_and and_self implies_true not_false_eq_true Nat.zero_add Nat.add_zero List.getD_cons_zero List.getD_cons_succ List.map_cons List.map_nil Option.bind_some Option.map_some Option.map_none List.getElem?_cons_zero List.getElem?_cons_succ List.length_cons List.length_nil List.drop_zero List.drop_succ_cons List.take_succ_cons List.take_zero List.cons_append List.nil_append List.append_nil D.of List.length_map all_get_map Option.isSome_some and_false false_and Nat.lt_add_one Nat.zero_lt_succ decide_true decide_false aPart Nat.lt_irrefl fzX litEs List.contains_cons List.elem_cons Bool.true_or Bool.or_true Bool.false_or Bool.or_false beq_self_eq_true
theorem idxF_nonneg {α : Type} (p : α → Bool) (l : List α) : decide (0 ≤ idxF p l) = l.any p := by
  unfold idxF
  cases h : l.findIdx? p with
  | none =>
    rw [List.findIdx?_eq_none_iff] at h
    have : l.any p = false := by rw [List.any_eq_false]; intro x hx; simp [h x hx]
    simp [this]
  | some i =>
    rw [List.findIdx?_eq_some_iff_getElem] at h
    obtain ⟨hi, hp, -⟩ := h
    have : l.any p = true := by rw [List.any_eq_true]; exact ⟨_, List.getElem_mem hi, hp⟩
    simp [this]
theorem tx_end {ss : List ByteArray} {i : Nat} (h : ∀ j x, j < i → ss[j]? = some x → lnB x = true) (hi : ss.length ≤ i) : decide ((ss.length : Int) ≤ 10) = txB ss := by
  have : ss.all lnB = true := by
    rw [List.all_eq_true]
    intro x hx
    obtain ⟨j, hj, rfl⟩ := List.mem_iff_getElem.1 hx
    exact h j _ (by omega) (by simp)
  simp [txB, this]
theorem tx_bad {ss : List ByteArray} {i : Nat} {x : ByteArray} (h : ss[i]? = some x) (hc : lnB x = false) : false = txB ss := by
  have : ss.all lnB = false := by
    rw [List.all_eq_false]
    exact ⟨x, List.mem_of_getElem? h, by simp [hc]⟩
  simp [txB, this]
theorem any_not (ss : List ByteArray) : (!ss.any fun s => !lnB s) = ss.all lnB := by
  induction ss with
  | nil => rfl
  | cons s r ih => simp [List.any_cons, List.all_cons, Bool.not_or, ih]
section
attribute [local go_sem] tsz9 tel39 toNat_cast sS und9
theorem ContainsFuncS_spec (ss : List ByteArray) (fn : FuncId) (cs : List X) (p : ByteArray → Bool) (hcs : ∀ V, X.onL V cs = true) (hn : ∀ av C, aArgs av C [] cs cs) (hf : ∀ s, Fun Tryd.prog fn (.d (.str s) :: cs) (.d (.bool (p s)))) : Fun Tryd.prog 43 [.d (strs ss), .clo fn cs] (.d (.bool (ss.any p))) := by
  refine Fun.of ?_ (by simp [X.onL, X.on, hcs]) rfl
  refine Spec.of (fn := Tryd.f43) Tryd.func43 rfl (by kernel_rfl) (rs := [.tmp 4]) rfl 1 (by simp [Tryd.f43]) (by simp [X.onL, X.on, hcs]) (by simp) ?_
  intro hreal
  rintro ⟨P, T, L0, w0, ι0, C0, U0⟩ hP hT hU
  subst hP hT
  refine st ?_
  all_goals first
  | fail_if_success with_reducible refine atR 0 ?_
  | (
    refine rg 0 [] [some 4] 1 ?_
    all_goals refine qP ?_
    all_goals refine qE ?_)
  all_goals first
  | fail_if_success with_reducible refine atR 1 ?_
  | (
    refine rg 1 [] [some 5, some 6, some 7, some 8, some 4] 5 ?_
    all_goals iterate 2 refine qP ?_
    all_goals (
      refine qL_cons ?_
      intro R hR
      refine sm ?_
      refine call_fun (IndexFuncS_spec ss fn cs p hcs hn hf) [] ?_ (.inl rfl) ?_
      · exact ⟨.inl rfl, ⟨.inl rfl, trivial⟩⟩
      refine sm ?_
      all_goals (refine hR _ ?_; clear hR R))
    all_goals iterate 2 refine qP ?_
    all_goals refine qE ?_)
  all_goals first
  | fail_if_success with_reducible refine ret_fun (t := 4) ?_ ?_
  | (
    refine ret_fun (t := 4) ?_ (fun _ => rfl)
    first
    | exact cl
    | (
      try refine sm ?_
      all_goals (
       (congr 2; exact idxF_nonneg p ss))))

end
section
attribute [local go_sem] tsz9 tel39 toNat_cast sS und9
theorem TextOk_spec (ss : List ByteArray) : Fun Tryd.prog 50 [.d (strs ss)] (.d (.bool (txB ss))) := by
  refine Fun.of ?_ rfl rfl
  refine Spec.of (fn := Tryd.f50) Tryd.func50 rfl (by kernel_rfl) (rs := [.tmp 2]) rfl 1 (by simp [Tryd.f50]) rfl (by simp) ?_
  intro hreal
  rintro ⟨P, T, L0, w0, ι0, C0, U0⟩ hP hT hU
  subst hP hT
  refine st ?_
  all_goals first
  | fail_if_success with_reducible refine atR 0 ?_
  | (
    refine rg 0 [] [some 2] 1 ?_
    all_goals refine qP ?_
    all_goals refine qE ?_)
  all_goals first
  | fail_if_success with_reducible refine atR 1 ?_
  | (
    refine rg 1 [] [some 3, some 4, some 5, some 6, some 7, some 8, some 9, some 10, some 2] 9 ?_
    all_goals iterate 4 refine qP ?_
    all_goals first | refine qU 6 ?_ | (refine qS 6 ?_ ?_ <;> intro hg1_3 <;> try (cases hg1_3; done))
    all_goals refine qP ?_
    all_goals first
    | (
      refine qL_cons ?_
      intro R hR
      refine sm ?_
      refine call_fun (ContainsFuncS_spec ss 75 [] (fun s => !lnB s) (fun _ => rfl) (fun _ _ => trivial) TextOk1_spec) [] ?_ (.inl rfl) ?_
      · exact ⟨.inl rfl, ⟨.inl rfl, trivial⟩⟩
      refine sm ?_
      refine hR _ ?_
      clear hR R)
    | refine qP ?_
    all_goals iterate 3 refine qP ?_
    all_goals refine qE ?_)
  all_goals first
  | fail_if_success with_reducible refine ret_fun (t := 2) ?_ ?_
  | (
    refine ret_fun (t := 2) ?_ (fun _ => rfl)
    first
    | exact cl
    | (
      try refine sm ?_
      all_goals (
       (congr 2; simp only [any_not, txB]; simp_all; try (intro h; omega)))))

end
section
attribute [local go_sem] tsz9 tel39 toNat_cast sS und9
theorem l1Ok_spec (ss : List ByteArray) : Fun Tryd.prog 88 [.d (strs ss)] (.d (.bool (txB ss))) := by
  refine Fun.of ?_ rfl rfl
  refine Spec.of (fn := Tryd.f88) Tryd.func88 rfl (by kernel_rfl) (rs := [.tmp 2]) rfl 1 (by simp [Tryd.f88]) rfl (by simp) ?_
  intro hreal
  rintro ⟨P, T, L0, w0, ι0, C0, U0⟩ hP hT hU
  subst hP hT
  refine st ?_
  have hlen : ss.length ≤ 9223372036854775807 := by simpa using D.real_len (X.real_d (hreal (.d (strs ss)) (by simp)) : D.real (.sl (ss.map sS)))
  all_goals first
  | fail_if_success with_reducible refine atR 0 ?_
  | (
    refine rg 0 [] [some 2] 1 ?_
    all_goals refine qP ?_
    all_goals refine qE ?_)
  all_goals first
  | fail_if_success with_reducible refine atR 1 ?_
  | (
    refine rg 1 [] [some 3] 1 ?_
    all_goals refine qP ?_
    all_goals refine qE ?_)
  all_goals first
  | fail_if_success with_reducible refine AW.rounds (α := Nat) ?_ ?_ ?_ ?_ ?_ ?_ ?_ ?_
  | (
    refine AW.rounds (α := Nat) (fun i => i ≤ ss.length ∧ ∀ j y, j < i → ss[j]? = some y → lnB y = true) (fun i => St.by [(0, .d (strs ss)), (3, .d (.int .i64 i))] []) (fun i => ss.length - i) 1 0 ?_ ?_ ?_
    · exact ⟨by omega, fun j y hj => by omega⟩
    · refine Vw.to [] _ _ (vU hU) ?_ ?_ (by simp [tauL])
      · refine vd (vw_d ?_ (trivial))
        · first
          | exact cl2
          | (
            refine sm2 ?_
            all_goals (
             rfl))
      · trivial
    · intro i hJ
      refine st ?_
      obtain ⟨hJ1, hJ2⟩ := hJ
      all_goals first
      | fail_if_success with_reducible refine atR 2 ?_
      | (
        refine rg 2 [] [some 4, some 5, some 6, some 7] 4 ?_
        all_goals iterate 4 refine qP ?_
        all_goals refine qE ?_)
      all_goals first
      | fail_if_success with_reducible refine atC 7 ?_
      | (
        refine cn 7 ?_ ?_ <;> intro hc7 <;> try (cases hc7; done)
        all_goals refine st ?_)
      all_goals first
      | fail_if_success with_reducible refine atR 4 ?_
      | (
        refine rg 4 [] [some 10, some 11, some 12, some 13, some 14, some 15] 6 ?_
        all_goals iterate 2 refine qP ?_
        all_goals (
          refine qL_cons ?_
          intro R hR
          refine sm ?_
          refine ⟨⟨by omega, by omega⟩, ?_⟩
          intro x2 hx2
          all_goals (refine hR _ ?_; clear hR R))
        all_goals refine qP ?_
        all_goals (
          refine qL_cons ?_
          intro R hR
          refine sm ?_
          refine call_fun (l1Line_spec x2) [] ?_ (.inl rfl) ?_
          · exact ⟨.inl rfl, trivial⟩
          refine sm ?_
          all_goals (refine hR _ ?_; clear hR R))
        all_goals refine qP ?_
        all_goals refine qE ?_)
      all_goals first
      | fail_if_success with_reducible refine atC 15 ?_
      | (
        refine cn 15 ?_ ?_ <;> intro hc15 <;> try (cases hc15; done)
        all_goals refine st ?_)
      all_goals first
      | fail_if_success with_reducible refine atR 5 ?_
      | (
        refine rg 5 [] [some 2] 1 ?_
        all_goals refine qP ?_
        all_goals refine qE ?_)
      all_goals first
      | fail_if_success with_reducible refine atR 3 ?_
      | (
        refine rg 3 [] [some 8, some 9, some 3] 3 ?_
        all_goals refine qP ?_
        all_goals (
          refine qL_cons ?_
          intro R hR
          refine sm ?_
          rw [wrap64 (by omega) (by omega)]
          all_goals (refine hR _ ?_; clear hR R))
        all_goals refine qP ?_
        all_goals refine qE ?_)
      all_goals first
      | fail_if_success with_reducible refine atR 6 ?_
      | (
        refine rg 6 [] [some 16, some 17, some 18, some 2] 4 ?_
        all_goals iterate 4 refine qP ?_
        all_goals refine qE ?_)
      all_goals first
      | fail_if_success with_reducible refine ⟨i + 1, ?_, ?_, ?_⟩
      | (
        refine ⟨i + 1, ?_, ?_, ?_⟩
        · refine ⟨by omega, fun j y hj hy => ?_⟩
          by_cases hji : j = i
          · subst hji; rw [hx2] at hy; cases hy; simpa using hc15
          · exact hJ2 j y (by omega) hy
        · omega
        · refine Vw.to [] _ _ (vU hU) ?_ ?_ (by simp [tauL])
          · refine vd (vw_d ?_ (trivial))
            · first
              | exact cl2
              | (
                refine sm2 ?_
                all_goals (
                 congr 1))
          · trivial)
      all_goals first
      | fail_if_success with_reducible refine ret_fun (t := 2) ?_ ?_
      | (
        refine ret_fun (t := 2) ?_ (fun _ => rfl)
        first
        | exact cl
        | (
          try refine sm ?_
          all_goals (
           first
             | (congr 2; exact tx_end hJ2 (by omega))
             | (congr 2; exact tx_bad hx2 (by simpa using hc15))))))

end
end Go.Proofs.YtkbnkcdaiahoeaaDoor
