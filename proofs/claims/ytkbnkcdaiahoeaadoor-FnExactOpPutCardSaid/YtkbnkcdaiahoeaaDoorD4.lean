/- what is to be done, written, kind 5; what is to be done, written, kind 6; what is to be done, written, kind 7; owners: sizes, copies, equality, as they were. No condition. -/
import Derived.Test.YtkbnkcdaiahoeaaDoorD16
import Derived.Test.YtkbnkcdaiahoeaaDoorD132
import Derived.Test.YtkbnkcdaiahoeaaDoorE16
namespace Go.Proofs.YtkbnkcdaiahoeaaDoor
open Go Go.RowKit Go.Shelf
set_option maxRecDepth 100000
set_option maxHeartbeats 4000000
set_option linter.unusedSimpArgs false
set_option linter.unusedVariables false
attribute [local go_sem] List.size_toArray Int.toNat_zero Nat.sub_zero size_mk top_val eq_self datL X.dat u8min u8max i64min i64max stepT gdO aop ev lit litOk putF fzX_false putO upd app List.contains_nil List.elem_nil aBin aInt aStr aBool aLen lenTy aBuiltin aLoad aTake aTakeX aStore splice aSlice aBd look_cons look_nil lookC_cons lookC_nil by_s by_C start_s start_C X.cells X.cell List.all_cons List.all_nil Bool.and_self Bool.not_true Bool.not_false false_implies true_implies forall_const and_true true_and and_self implies_true not_false_eq_true Nat.zero_add Nat.add_zero List.getD_cons_zero List.getD_cons_succ List.map_cons List.map_nil Option.bind_some Option.map_some Option.map_none List.getElem?_cons_zero List.getElem?_cons_succ List.length_cons List.length_nil List.drop_zero List.drop_succ_cons List.take_succ_cons List.take_zero List.cons_append List.nil_append List.append_nil D.of List.length_map all_get_map Option.isSome_some and_false false_and Nat.lt_add_one Nat.zero_lt_succ decide_true decide_false aPart aSl2 Nat.lt_irrefl fzX litEs List.contains_cons List.elem_cons Bool.true_or Bool.or_true Bool.false_or Bool.or_false beq_self_eq_true
section
attribute [local go_sem] tsz9 tsz39 tel39 toNat_cast und9 und4 und5b tsz44 tfld44 tsz3' sS tarr68 tel68 known0
theorem implPut_5 (br who path to : ByteArray) (at_ : Int) (text : List ByteArray) (hb : br.size ≤ 1000000) (hw : who.size ≤ 1000000) (hp : path.size ≤ 1000000) (ht : to.size ≤ 1000000) (hl : text.length ≤ 1000000) (hls : ∀ l ∈ text, l.size ≤ 1000000) (ho : opB 5 br who path to at_ text = true) : Fun Tryd.prog 25 [.ag [.d (.int .i64 5), .d (.str br), .d (.str who), .d (.str path), .d (.str to), .d (.int .i64 at_), .d (strs text)]] (.d (.str (putB 5 br who path to at_ text))) := by
  refine Fun.of ?_ rfl rfl
  refine Spec.of (fn := Tryd.f25) Tryd.func25 rfl (by kernel_rfl) (rs := [.tmp 2]) rfl 1 (by simp [Tryd.f25]) rfl (by simp) ?_
  intro hreal
  rintro ⟨P, T, L0, w0, ι0, C0, U0⟩ hP hT hU
  subst hP hT
  refine st ?_
  all_goals first
  | fail_if_success with_reducible refine atR 0 ?_
  | (
    refine rg 0 [] [some 1, some 2] 2 ?_
    all_goals iterate 2 refine qP ?_
    all_goals refine qE ?_)
  all_goals first
  | fail_if_success with_reducible refine atR 1 ?_
  | (
    refine rg 1 [] [some 6, some 7, some 8] 3 ?_
    all_goals refine qP ?_
    all_goals (
      refine qL_cons ?_
      intro R hR
      refine sm ?_
      refine call_fun (implOpOk_all 5 br who path to at_ text hp ht) [] ?_ (.inl rfl) ?_
      · exact ⟨.inl rfl, trivial⟩
      refine sm ?_
      simp only [ho]
      all_goals (refine hR _ ?_; clear hR R))
    all_goals refine qP ?_
    all_goals refine qE ?_)
  all_goals first
  | fail_if_success with_reducible refine atC 8 ?_
  | (
    refine cn 8 ?_ ?_ <;> intro hc8 <;> try (cases hc8; done)
    all_goals refine st ?_)
  all_goals try (exfalso; omega)
  all_goals first
  | fail_if_success with_reducible refine atR 2 ?_
  | (
    refine rg 2 [] [some 2] 1 ?_
    all_goals refine qP ?_
    all_goals refine qE ?_)
  all_goals first
  | fail_if_success with_reducible refine atR 3 ?_
  | (
    refine rgD 3 [] [some 9, some 10, some 11, some 12, some 13, some 14, some 15, some 16, some 17, some 18, some 19, some 20, some 21, some 22, some 3] 15 16 ?_
    intro av hav
    have hf1 := freeD 1 hav
    all_goals refine qP ?_
    all_goals (
      refine qL_cons ?_
      intro R hR
      simp only [go_sem, reduceIte, reduceCtorEq, Nat.reduceAdd, Nat.reduceEqDiff, Nat.reduceLeDiff, Nat.reduceLT, Nat.reduceSub, Int.reduceLE, Int.reduceNeg, Int.reduceLT, hf1]
      all_goals (refine hR _ ?_; clear hR R))
    all_goals (
      refine qL_cons ?_
      intro R hR
      simp only [go_sem, reduceIte, reduceCtorEq, Nat.reduceAdd, Nat.reduceEqDiff, Nat.reduceLeDiff, Nat.reduceLT, Nat.reduceSub, Int.reduceLE, Int.reduceNeg, Int.reduceLT, hf1]
      try rw [show IntKind.i64.wrap ((5 : Int) - 1) = 4 from rfl]
      all_goals (refine hR _ ?_; clear hR R))
    all_goals (
      refine qL_cons ?_
      intro R hR
      simp only [go_sem, reduceIte, reduceCtorEq, Nat.reduceAdd, Nat.reduceEqDiff, Nat.reduceLeDiff, Nat.reduceLT, Nat.reduceSub, Int.reduceLE, Int.reduceNeg, Int.reduceLT, hf1]
      try refine ⟨⟨by decide, by decide⟩, ?_⟩
      repeat refine ⟨by decide, ?_⟩
      simp only [Int.reduceToNat, Int.toNat_zero, Int.toNat_one, Nat.mul_one, Nat.reduceMul, List.drop_succ_cons, List.drop_zero, List.take_succ_cons, List.take_zero]
      all_goals (refine hR _ ?_; clear hR R))
    all_goals (
      refine qL_cons ?_
      intro R hR
      simp only [go_sem, reduceIte, reduceCtorEq, Nat.reduceAdd, Nat.reduceEqDiff, Nat.reduceLeDiff, Nat.reduceLT, Nat.reduceSub, Int.reduceLE, Int.reduceNeg, Int.reduceLT, hf1]
      all_goals (refine hR _ ?_; clear hR R))
    all_goals (
      refine qL_cons ?_
      intro R hR
      simp only [go_sem, reduceIte, reduceCtorEq, Nat.reduceAdd, Nat.reduceEqDiff, Nat.reduceLeDiff, Nat.reduceLT, Nat.reduceSub, Int.reduceLE, Int.reduceNeg, Int.reduceLT, hf1]
      first
      | refine ⟨(by first | omega | (simp only [ByteArray.size_append, size_mk, List.size_toArray, List.length_cons, List.length_nil]; omega)), ?_⟩
      | skip
      all_goals (refine hR _ ?_; clear hR R))
    all_goals refine qP ?_
    all_goals (
      refine qL_cons ?_
      intro R hR
      simp only [go_sem, reduceIte, reduceCtorEq, Nat.reduceAdd, Nat.reduceEqDiff, Nat.reduceLeDiff, Nat.reduceLT, Nat.reduceSub, Int.reduceLE, Int.reduceNeg, Int.reduceLT, hf1]
      all_goals (refine hR _ ?_; clear hR R))
    all_goals (
      refine qL_cons ?_
      intro R hR
      simp only [go_sem, reduceIte, reduceCtorEq, Nat.reduceAdd, Nat.reduceEqDiff, Nat.reduceLeDiff, Nat.reduceLT, Nat.reduceSub, Int.reduceLE, Int.reduceNeg, Int.reduceLT, hf1]
      first
      | refine ⟨(by first | omega | (simp only [ByteArray.size_append, size_mk, List.size_toArray, List.length_cons, List.length_nil]; omega)), ?_⟩
      | skip
      all_goals (refine hR _ ?_; clear hR R))
    all_goals (
      refine qL_cons ?_
      intro R hR
      simp only [go_sem, reduceIte, reduceCtorEq, Nat.reduceAdd, Nat.reduceEqDiff, Nat.reduceLeDiff, Nat.reduceLT, Nat.reduceSub, Int.reduceLE, Int.reduceNeg, Int.reduceLT, hf1]
      first
      | refine ⟨(by first | omega | (simp only [ByteArray.size_append, size_mk, List.size_toArray, List.length_cons, List.length_nil]; omega)), ?_⟩
      | skip
      all_goals (refine hR _ ?_; clear hR R))
    all_goals refine qP ?_
    all_goals (
      refine qL_cons ?_
      intro R hR
      simp only [go_sem, reduceIte, reduceCtorEq, Nat.reduceAdd, Nat.reduceEqDiff, Nat.reduceLeDiff, Nat.reduceLT, Nat.reduceSub, Int.reduceLE, Int.reduceNeg, Int.reduceLT, hf1]
      all_goals (refine hR _ ?_; clear hR R))
    all_goals (
      refine qL_cons ?_
      intro R hR
      simp only [go_sem, reduceIte, reduceCtorEq, Nat.reduceAdd, Nat.reduceEqDiff, Nat.reduceLeDiff, Nat.reduceLT, Nat.reduceSub, Int.reduceLE, Int.reduceNeg, Int.reduceLT, hf1]
      first
      | refine ⟨(by first | omega | (simp only [ByteArray.size_append, size_mk, List.size_toArray, List.length_cons, List.length_nil]; omega)), ?_⟩
      | skip
      all_goals (refine hR _ ?_; clear hR R))
    all_goals (
      refine qL_cons ?_
      intro R hR
      simp only [go_sem, reduceIte, reduceCtorEq, Nat.reduceAdd, Nat.reduceEqDiff, Nat.reduceLeDiff, Nat.reduceLT, Nat.reduceSub, Int.reduceLE, Int.reduceNeg, Int.reduceLT, hf1]
      first
      | refine ⟨(by first | omega | (simp only [ByteArray.size_append, size_mk, List.size_toArray, List.length_cons, List.length_nil]; omega)), ?_⟩
      | skip
      all_goals (refine hR _ ?_; clear hR R))
    all_goals refine qP ?_
    all_goals refine qE ?_
    all_goals clear hf1 hav av)
  all_goals first
  | fail_if_success with_reducible refine atR 4 ?_
  | (
    refine rg 4 [] [some 23, some 24] 2 ?_
    all_goals iterate 2 refine qP ?_
    all_goals refine qE ?_)
  all_goals first
  | fail_if_success with_reducible refine atR 6 ?_
  | (
    refine rg 6 [] [some 31, some 30] 2 ?_
    all_goals iterate 2 refine qP ?_
    all_goals refine qE ?_)
  all_goals first
  | fail_if_success with_reducible refine atC 30 ?_
  | (
    refine cn 30 ?_ ?_ <;> intro hc30 <;> try (cases hc30; done)
    all_goals refine st ?_)
  all_goals try (exfalso; omega)
  all_goals first
  | fail_if_success with_reducible refine atR 7 ?_
  | (
    refine rg 7 [] [some 32, some 33, some 34, some 35, some 36, some 3] 6 ?_
    all_goals iterate 3 refine qP ?_
    all_goals (
      refine qL_cons ?_
      intro R hR
      refine sm ?_
      first
      | refine ⟨(by first | omega | (simp only [ByteArray.size_append, size_mk, List.size_toArray, List.length_cons, List.length_nil]; omega)), ?_⟩
      | skip
      all_goals (refine hR _ ?_; clear hR R))
    all_goals (
      refine qL_cons ?_
      intro R hR
      refine sm ?_
      first
      | refine ⟨(by first | omega | (simp only [ByteArray.size_append, size_mk, List.size_toArray, List.length_cons, List.length_nil]; omega)), ?_⟩
      | skip
      all_goals (refine hR _ ?_; clear hR R))
    all_goals refine qP ?_
    all_goals refine qE ?_)
  all_goals first
  | fail_if_success with_reducible refine atR 8 ?_
  | (
    refine rg 8 [] [some 37, some 38, some 39, some 40] 4 ?_
    all_goals iterate 4 refine qP ?_
    all_goals refine qE ?_)
  all_goals first
  | fail_if_success with_reducible refine atR 13 ?_
  | (
    refine rg 13 [] [some 50, some 49] 2 ?_
    all_goals iterate 2 refine qP ?_
    all_goals refine qE ?_)
  all_goals first
  | fail_if_success with_reducible refine atC 49 ?_
  | (
    refine cn 49 ?_ ?_ <;> intro hc49 <;> try (cases hc49; done)
    all_goals refine st ?_)
  all_goals try (exfalso; omega)
  all_goals first
  | fail_if_success with_reducible refine atR 14 ?_
  | (
    refine rg 14 [] [some 51, some 52, some 53, some 54, some 3] 5 ?_
    all_goals iterate 3 refine qP ?_
    all_goals (
      refine qL_cons ?_
      intro R hR
      refine sm ?_
      first
      | refine ⟨(by first | omega | (simp only [ByteArray.size_append, size_mk, List.size_toArray, List.length_cons, List.length_nil]; omega)), ?_⟩
      | skip
      all_goals (refine hR _ ?_; clear hR R))
    all_goals refine qP ?_
    all_goals refine qE ?_)
  all_goals first
  | fail_if_success with_reducible refine atR 15 ?_
  | (
    refine rg 15 [] [some 56, some 55] 2 ?_
    all_goals iterate 2 refine qP ?_
    all_goals refine qE ?_)
  all_goals first
  | fail_if_success with_reducible refine atC 55 ?_
  | (
    refine cn 55 ?_ ?_ <;> intro hc55 <;> try (cases hc55; done)
    all_goals refine st ?_)
  all_goals try (exfalso; omega)
  all_goals first
  | fail_if_success with_reducible refine atR 16 ?_
  | (
    refine rg 16 [] [some 57, some 58, some 59, some 60, some 61, some 62, some 63, some 64, some 3] 9 ?_
    all_goals iterate 3 refine qP ?_
    all_goals (
      refine qL_cons ?_
      intro R hR
      refine sm ?_
      first
      | refine ⟨(by first | omega | (simp only [ByteArray.size_append, size_mk, List.size_toArray, List.length_cons, List.length_nil]; omega)), ?_⟩
      | skip
      all_goals (refine hR _ ?_; clear hR R))
    all_goals iterate 2 refine qP ?_
    all_goals (
      refine qL_cons ?_
      intro R hR
      refine sm ?_
      first
      | refine ⟨(by first | omega | (simp only [ByteArray.size_append, size_mk, List.size_toArray, List.length_cons, List.length_nil]; omega)), ?_⟩
      | skip
      all_goals (refine hR _ ?_; clear hR R))
    all_goals (
      refine qL_cons ?_
      intro R hR
      refine sm ?_
      first
      | refine ⟨(by first | omega | (simp only [ByteArray.size_append, size_mk, List.size_toArray, List.length_cons, List.length_nil]; omega)), ?_⟩
      | skip
      all_goals (refine hR _ ?_; clear hR R))
    all_goals refine qP ?_
    all_goals refine qE ?_)
  all_goals first
  | fail_if_success with_reducible refine atR 17 ?_
  | (
    refine rg 17 [] [some 66, some 65] 2 ?_
    all_goals iterate 2 refine qP ?_
    all_goals refine qE ?_)
  all_goals first
  | fail_if_success with_reducible refine atC 65 ?_
  | (
    refine cn 65 ?_ ?_ <;> intro hc65 <;> try (cases hc65; done)
    all_goals refine st ?_)
  all_goals try (exfalso; omega)
  all_goals first
  | fail_if_success with_reducible refine atR 18 ?_
  | (
    refine rg 18 [] [some 67, some 65] 2 ?_
    all_goals iterate 2 refine qP ?_
    all_goals refine qE ?_)
  all_goals first
  | fail_if_success with_reducible refine atC 65 ?_
  | (
    refine cn 65 ?_ ?_ <;> intro hc65 <;> try (cases hc65; done)
    all_goals refine st ?_)
  all_goals try (exfalso; omega)
  all_goals first
  | fail_if_success with_reducible refine atR 19 ?_
  | (
    refine rg 19 [] [some 68, some 69, some 70, some 71, some 3] 5 ?_
    all_goals iterate 3 refine qP ?_
    all_goals (
      refine qL_cons ?_
      intro R hR
      refine sm ?_
      first
      | refine ⟨(by first | omega | (simp only [ByteArray.size_append, size_mk, List.size_toArray, List.length_cons, List.length_nil]; omega)), ?_⟩
      | skip
      all_goals (refine hR _ ?_; clear hR R))
    all_goals refine qP ?_
    all_goals refine qE ?_)
  all_goals first
  | fail_if_success with_reducible refine atR 5 ?_
  | (
    refine rg 5 [] [some 25, some 26, some 27, some 28, some 29, some 3] 6 ?_
    all_goals iterate 4 refine qP ?_
    all_goals (
      refine qL_cons ?_
      intro R hR
      refine sm ?_
      first
      | refine ⟨(by first | omega | (simp only [ByteArray.size_append, size_mk, List.size_toArray, List.length_cons, List.length_nil]; omega)), ?_⟩
      | skip
      all_goals (refine hR _ ?_; clear hR R))
    all_goals refine qP ?_
    all_goals refine qE ?_)
  all_goals first
  | fail_if_success with_reducible refine atR 20 ?_
  | (
    refine rg 20 [] [some 72, some 2] 2 ?_
    all_goals iterate 2 refine qP ?_
    all_goals refine qE ?_)
  all_goals first
  | fail_if_success with_reducible refine ret_fun (t := 2) ?_ ?_
  | (
    refine ret_fun (t := 2) ?_ (fun _ => rfl)
    first
    | exact cl
    | (
      try refine sm ?_
      all_goals (
       (congr 2; simp [putB, headB, wordB, ByteArray.append_assoc]; done))))

end
section
attribute [local go_sem] tsz9 tsz39 tel39 toNat_cast und9 und4 und5b tsz44 tfld44 tsz3' sS tarr68 tel68 known0
theorem l19Put_5 (br who path to : ByteArray) (at_ : Int) (text : List ByteArray) (hb : br.size ≤ 1000000) (hw : who.size ≤ 1000000) (hp : path.size ≤ 1000000) (ht : to.size ≤ 1000000) (hl : text.length ≤ 1000000) (hls : ∀ l ∈ text, l.size ≤ 1000000) : Fun Tryd.prog 54 [.ag [.d (.int .i64 5), .d (.str br), .d (.str who), .d (.str path), .d (.str to), .d (.int .i64 at_), .d (strs text)]] (.d (.str (putB 5 br who path to at_ text))) := by
  refine Fun.of ?_ rfl rfl
  refine Spec.of (fn := Tryd.f54) Tryd.func54 rfl (by kernel_rfl) (rs := [.tmp 2]) rfl 1 (by simp [Tryd.f54]) rfl (by simp) ?_
  intro hreal
  rintro ⟨P, T, L0, w0, ι0, C0, U0⟩ hP hT hU
  subst hP hT
  refine st ?_
  all_goals first
  | fail_if_success with_reducible refine atR 0 ?_
  | (
    refine rg 0 [] [some 1, some 2] 2 ?_
    all_goals iterate 2 refine qP ?_
    all_goals refine qE ?_)
  all_goals first
  | fail_if_success with_reducible refine atR 1 ?_
  | (
    refine rgD 1 [] [some 5, some 6, some 7, some 8, some 9, some 10, some 11, some 12, some 13, some 14, some 15, some 16, some 17, some 3] 14 15 ?_
    intro av hav
    have hf1 := freeD 1 hav
    all_goals (
      refine qL_cons ?_
      intro R hR
      simp only [go_sem, reduceIte, reduceCtorEq, Nat.reduceAdd, Nat.reduceEqDiff, Nat.reduceLeDiff, Nat.reduceLT, Nat.reduceSub, Int.reduceLE, Int.reduceNeg, Int.reduceLT, hf1]
      refine call_fun (l19Words_spec) [] ?_ (.inl rfl) ?_
      · exact trivial
      simp only [go_sem, reduceIte, reduceCtorEq, Nat.reduceAdd, Nat.reduceEqDiff, Nat.reduceLeDiff, Nat.reduceLT, Nat.reduceSub, Int.reduceLE, Int.reduceNeg, Int.reduceLT, hf1]
      all_goals (refine hR _ ?_; clear hR R))
    all_goals refine qP ?_
    all_goals (
      refine qL_cons ?_
      intro R hR
      simp only [go_sem, reduceIte, reduceCtorEq, Nat.reduceAdd, Nat.reduceEqDiff, Nat.reduceLeDiff, Nat.reduceLT, Nat.reduceSub, Int.reduceLE, Int.reduceNeg, Int.reduceLT, hf1]
      all_goals (refine hR _ ?_; clear hR R))
    all_goals (
      refine qL_cons ?_
      intro R hR
      simp only [go_sem, reduceIte, reduceCtorEq, Nat.reduceAdd, Nat.reduceEqDiff, Nat.reduceLeDiff, Nat.reduceLT, Nat.reduceSub, Int.reduceLE, Int.reduceNeg, Int.reduceLT, hf1]
      try refine ⟨⟨by decide, by decide⟩, ?_⟩
      repeat refine ⟨by decide, ?_⟩
      intro c hc
      obtain rfl := Option.some.inj hc.symm
      refine ⟨rfl, ?_⟩
      all_goals (refine hR _ ?_; clear hR R))
    all_goals (
      refine qL_cons ?_
      intro R hR
      simp only [go_sem, reduceIte, reduceCtorEq, Nat.reduceAdd, Nat.reduceEqDiff, Nat.reduceLeDiff, Nat.reduceLT, Nat.reduceSub, Int.reduceLE, Int.reduceNeg, Int.reduceLT, hf1]
      all_goals (refine hR _ ?_; clear hR R))
    all_goals (
      refine qL_cons ?_
      intro R hR
      simp only [go_sem, reduceIte, reduceCtorEq, Nat.reduceAdd, Nat.reduceEqDiff, Nat.reduceLeDiff, Nat.reduceLT, Nat.reduceSub, Int.reduceLE, Int.reduceNeg, Int.reduceLT, hf1]
      first
      | refine ⟨(by first | omega | (simp only [ByteArray.size_append, size_mk, List.size_toArray, List.length_cons, List.length_nil]; omega)), ?_⟩
      | skip
      all_goals (refine hR _ ?_; clear hR R))
    all_goals refine qP ?_
    all_goals (
      refine qL_cons ?_
      intro R hR
      simp only [go_sem, reduceIte, reduceCtorEq, Nat.reduceAdd, Nat.reduceEqDiff, Nat.reduceLeDiff, Nat.reduceLT, Nat.reduceSub, Int.reduceLE, Int.reduceNeg, Int.reduceLT, hf1]
      all_goals (refine hR _ ?_; clear hR R))
    all_goals (
      refine qL_cons ?_
      intro R hR
      simp only [go_sem, reduceIte, reduceCtorEq, Nat.reduceAdd, Nat.reduceEqDiff, Nat.reduceLeDiff, Nat.reduceLT, Nat.reduceSub, Int.reduceLE, Int.reduceNeg, Int.reduceLT, hf1]
      first
      | refine ⟨(by first | omega | (simp only [ByteArray.size_append, size_mk, List.size_toArray, List.length_cons, List.length_nil]; omega)), ?_⟩
      | skip
      all_goals (refine hR _ ?_; clear hR R))
    all_goals (
      refine qL_cons ?_
      intro R hR
      simp only [go_sem, reduceIte, reduceCtorEq, Nat.reduceAdd, Nat.reduceEqDiff, Nat.reduceLeDiff, Nat.reduceLT, Nat.reduceSub, Int.reduceLE, Int.reduceNeg, Int.reduceLT, hf1]
      first
      | refine ⟨(by first | omega | (simp only [ByteArray.size_append, size_mk, List.size_toArray, List.length_cons, List.length_nil]; omega)), ?_⟩
      | skip
      all_goals (refine hR _ ?_; clear hR R))
    all_goals refine qP ?_
    all_goals (
      refine qL_cons ?_
      intro R hR
      simp only [go_sem, reduceIte, reduceCtorEq, Nat.reduceAdd, Nat.reduceEqDiff, Nat.reduceLeDiff, Nat.reduceLT, Nat.reduceSub, Int.reduceLE, Int.reduceNeg, Int.reduceLT, hf1]
      all_goals (refine hR _ ?_; clear hR R))
    all_goals (
      refine qL_cons ?_
      intro R hR
      simp only [go_sem, reduceIte, reduceCtorEq, Nat.reduceAdd, Nat.reduceEqDiff, Nat.reduceLeDiff, Nat.reduceLT, Nat.reduceSub, Int.reduceLE, Int.reduceNeg, Int.reduceLT, hf1]
      first
      | refine ⟨(by first | omega | (simp only [ByteArray.size_append, size_mk, List.size_toArray, List.length_cons, List.length_nil]; omega)), ?_⟩
      | skip
      all_goals (refine hR _ ?_; clear hR R))
    all_goals refine qP ?_
    all_goals refine qE ?_
    all_goals clear hf1 hav av)
  all_goals first
  | fail_if_success with_reducible refine atR 2 ?_
  | (
    refine rg 2 [] [some 18, some 19] 2 ?_
    all_goals iterate 2 refine qP ?_
    all_goals refine qE ?_)
  all_goals first
  | fail_if_success with_reducible refine atR 4 ?_
  | (
    refine rg 4 [] [some 27, some 26] 2 ?_
    all_goals iterate 2 refine qP ?_
    all_goals refine qE ?_)
  all_goals first
  | fail_if_success with_reducible refine atC 26 ?_
  | (
    refine cn 26 ?_ ?_ <;> intro hc26 <;> try (cases hc26; done)
    all_goals refine st ?_)
  all_goals try (exfalso; omega)
  all_goals first
  | fail_if_success with_reducible refine atR 5 ?_
  | (
    refine rg 5 [] [some 28, some 29, some 30, some 31, some 32, some 33, some 3] 7 ?_
    all_goals refine qP ?_
    all_goals (
      refine qL_cons ?_
      intro R hR
      refine sm ?_
      first
      | refine ⟨(by first | omega | (simp only [ByteArray.size_append, size_mk, List.size_toArray, List.length_cons, List.length_nil]; omega)), ?_⟩
      | skip
      all_goals (refine hR _ ?_; clear hR R))
    all_goals iterate 2 refine qP ?_
    all_goals (
      refine qL_cons ?_
      intro R hR
      refine sm ?_
      first
      | refine ⟨(by first | omega | (simp only [ByteArray.size_append, size_mk, List.size_toArray, List.length_cons, List.length_nil]; omega)), ?_⟩
      | skip
      all_goals (refine hR _ ?_; clear hR R))
    all_goals (
      refine qL_cons ?_
      intro R hR
      refine sm ?_
      first
      | refine ⟨(by first | omega | (simp only [ByteArray.size_append, size_mk, List.size_toArray, List.length_cons, List.length_nil]; omega)), ?_⟩
      | skip
      all_goals (refine hR _ ?_; clear hR R))
    all_goals refine qP ?_
    all_goals refine qE ?_)
  all_goals first
  | fail_if_success with_reducible refine atR 6 ?_
  | (
    refine rg 6 [] [some 4] 1 ?_
    all_goals refine qP ?_
    all_goals refine qE ?_)
  all_goals first
  | fail_if_success with_reducible refine atR 10 ?_
  | (
    refine rg 10 [] [some 50, some 49] 2 ?_
    all_goals iterate 2 refine qP ?_
    all_goals refine qE ?_)
  all_goals first
  | fail_if_success with_reducible refine atC 49 ?_
  | (
    refine cn 49 ?_ ?_ <;> intro hc49 <;> try (cases hc49; done)
    all_goals refine st ?_)
  all_goals try (exfalso; omega)
  all_goals first
  | fail_if_success with_reducible refine atR 11 ?_
  | (
    refine rg 11 [] [some 51, some 52, some 53, some 54, some 55, some 3] 6 ?_
    all_goals refine qP ?_
    all_goals (
      refine qL_cons ?_
      intro R hR
      refine sm ?_
      first
      | refine ⟨(by first | omega | (simp only [ByteArray.size_append, size_mk, List.size_toArray, List.length_cons, List.length_nil]; omega)), ?_⟩
      | skip
      all_goals (refine hR _ ?_; clear hR R))
    all_goals iterate 2 refine qP ?_
    all_goals (
      refine qL_cons ?_
      intro R hR
      refine sm ?_
      first
      | refine ⟨(by first | omega | (simp only [ByteArray.size_append, size_mk, List.size_toArray, List.length_cons, List.length_nil]; omega)), ?_⟩
      | skip
      all_goals (refine hR _ ?_; clear hR R))
    all_goals refine qP ?_
    all_goals refine qE ?_)
  all_goals first
  | fail_if_success with_reducible refine atR 12 ?_
  | (
    refine rg 12 [] [some 57, some 56] 2 ?_
    all_goals iterate 2 refine qP ?_
    all_goals refine qE ?_)
  all_goals first
  | fail_if_success with_reducible refine atC 56 ?_
  | (
    refine cn 56 ?_ ?_ <;> intro hc56 <;> try (cases hc56; done)
    all_goals refine st ?_)
  all_goals try (exfalso; omega)
  all_goals first
  | fail_if_success with_reducible refine atR 13 ?_
  | (
    refine rg 13 [] [some 58, some 59, some 60, some 61, some 62, some 63, some 64, some 65, some 66, some 3] 10 ?_
    all_goals refine qP ?_
    all_goals (
      refine qL_cons ?_
      intro R hR
      refine sm ?_
      first
      | refine ⟨(by first | omega | (simp only [ByteArray.size_append, size_mk, List.size_toArray, List.length_cons, List.length_nil]; omega)), ?_⟩
      | skip
      all_goals (refine hR _ ?_; clear hR R))
    all_goals iterate 2 refine qP ?_
    all_goals (
      refine qL_cons ?_
      intro R hR
      refine sm ?_
      first
      | refine ⟨(by first | omega | (simp only [ByteArray.size_append, size_mk, List.size_toArray, List.length_cons, List.length_nil]; omega)), ?_⟩
      | skip
      all_goals (refine hR _ ?_; clear hR R))
    all_goals (
      refine qL_cons ?_
      intro R hR
      refine sm ?_
      first
      | refine ⟨(by first | omega | (simp only [ByteArray.size_append, size_mk, List.size_toArray, List.length_cons, List.length_nil]; omega)), ?_⟩
      | skip
      all_goals (refine hR _ ?_; clear hR R))
    all_goals iterate 2 refine qP ?_
    all_goals (
      refine qL_cons ?_
      intro R hR
      refine sm ?_
      first
      | refine ⟨(by first | omega | (simp only [ByteArray.size_append, size_mk, List.size_toArray, List.length_cons, List.length_nil]; omega)), ?_⟩
      | skip
      all_goals (refine hR _ ?_; clear hR R))
    all_goals refine qP ?_
    all_goals refine qE ?_)
  all_goals first
  | fail_if_success with_reducible refine atR 14 ?_
  | (
    refine rg 14 [] [some 68, some 67] 2 ?_
    all_goals iterate 2 refine qP ?_
    all_goals refine qE ?_)
  all_goals first
  | fail_if_success with_reducible refine atC 67 ?_
  | (
    refine cn 67 ?_ ?_ <;> intro hc67 <;> try (cases hc67; done)
    all_goals refine st ?_)
  all_goals try (exfalso; omega)
  all_goals first
  | fail_if_success with_reducible refine atR 15 ?_
  | (
    refine rg 15 [] [some 69, some 67] 2 ?_
    all_goals iterate 2 refine qP ?_
    all_goals refine qE ?_)
  all_goals first
  | fail_if_success with_reducible refine atC 67 ?_
  | (
    refine cn 67 ?_ ?_ <;> intro hc67 <;> try (cases hc67; done)
    all_goals refine st ?_)
  all_goals try (exfalso; omega)
  all_goals first
  | fail_if_success with_reducible refine atR 16 ?_
  | (
    refine rg 16 [] [some 70, some 71, some 72, some 73, some 74, some 3] 6 ?_
    all_goals refine qP ?_
    all_goals (
      refine qL_cons ?_
      intro R hR
      refine sm ?_
      first
      | refine ⟨(by first | omega | (simp only [ByteArray.size_append, size_mk, List.size_toArray, List.length_cons, List.length_nil]; omega)), ?_⟩
      | skip
      all_goals (refine hR _ ?_; clear hR R))
    all_goals iterate 2 refine qP ?_
    all_goals (
      refine qL_cons ?_
      intro R hR
      refine sm ?_
      first
      | refine ⟨(by first | omega | (simp only [ByteArray.size_append, size_mk, List.size_toArray, List.length_cons, List.length_nil]; omega)), ?_⟩
      | skip
      all_goals (refine hR _ ?_; clear hR R))
    all_goals refine qP ?_
    all_goals refine qE ?_)
  all_goals first
  | fail_if_success with_reducible refine atR 3 ?_
  | (
    refine rg 3 [] [some 20, some 21, some 22, some 23, some 24, some 25, some 3] 7 ?_
    all_goals refine qP ?_
    all_goals (
      refine qL_cons ?_
      intro R hR
      refine sm ?_
      first
      | refine ⟨(by first | omega | (simp only [ByteArray.size_append, size_mk, List.size_toArray, List.length_cons, List.length_nil]; omega)), ?_⟩
      | skip
      all_goals (refine hR _ ?_; clear hR R))
    all_goals iterate 3 refine qP ?_
    all_goals (
      refine qL_cons ?_
      intro R hR
      refine sm ?_
      first
      | refine ⟨(by first | omega | (simp only [ByteArray.size_append, size_mk, List.size_toArray, List.length_cons, List.length_nil]; omega)), ?_⟩
      | skip
      all_goals (refine hR _ ?_; clear hR R))
    all_goals refine qP ?_
    all_goals refine qE ?_)
  all_goals first
  | fail_if_success with_reducible refine atR 17 ?_
  | (
    refine rg 17 [] [some 75, some 2] 2 ?_
    all_goals iterate 2 refine qP ?_
    all_goals refine qE ?_)
  all_goals first
  | fail_if_success with_reducible refine ret_fun (t := 2) ?_ ?_
  | (
    refine ret_fun (t := 2) ?_ (fun _ => rfl)
    first
    | exact cl
    | (
      try refine sm ?_
      all_goals (
       (congr 2; simp [putB, headB, wordB, ByteArray.append_assoc]; done))))

end
end Go.Proofs.YtkbnkcdaiahoeaaDoor
namespace Go.Proofs.YtkbnkcdaiahoeaaDoor
open Go Go.RowKit Go.Shelf
set_option maxRecDepth 100000
set_option maxHeartbeats 4000000
set_option linter.unusedSimpArgs false
set_option linter.unusedVariables false
attribute [local go_sem] List.size_toArray Int.toNat_zero Nat.sub_zero size_mk top_val eq_self datL X.dat u8min u8max i64min i64max stepT gdO aop ev lit litOk putF fzX_false putO upd app List.contains_nil List.elem_nil aBin aInt aStr aBool aLen lenTy aBuiltin aLoad aTake aTakeX aStore splice aSlice aBd look_cons look_nil lookC_cons lookC_nil by_s by_C start_s start_C X.cells X.cell List.all_cons List.all_nil Bool.and_self Bool.not_true Bool.not_false false_implies true_implies forall_const and_true true_and and_self implies_true not_false_eq_true Nat.zero_add Nat.add_zero List.getD_cons_zero List.getD_cons_succ List.map_cons List.map_nil Option.bind_some Option.map_some Option.map_none List.getElem?_cons_zero List.getElem?_cons_succ List.length_cons List.length_nil List.drop_zero List.drop_succ_cons List.take_succ_cons List.take_zero List.cons_append List.nil_append List.append_nil D.of List.length_map all_get_map Option.isSome_some and_false false_and Nat.lt_add_one Nat.zero_lt_succ decide_true decide_false aPart aSl2 Nat.lt_irrefl fzX litEs List.contains_cons List.elem_cons Bool.true_or Bool.or_true Bool.false_or Bool.or_false beq_self_eq_true
section
attribute [local go_sem] tsz9 tsz39 tel39 toNat_cast und9 und4 und5b tsz44 tfld44 tsz3' sS tarr68 tel68 known0
theorem implPut_6 (br who path to : ByteArray) (at_ : Int) (text : List ByteArray) (hb : br.size ≤ 1000000) (hw : who.size ≤ 1000000) (hp : path.size ≤ 1000000) (ht : to.size ≤ 1000000) (hl : text.length ≤ 1000000) (hls : ∀ l ∈ text, l.size ≤ 1000000) (ha : 0 ≤ at_ ∧ at_ ≤ 15) (ho : opB 6 br who path to at_ text = true) : Fun Tryd.prog 25 [.ag [.d (.int .i64 6), .d (.str br), .d (.str who), .d (.str path), .d (.str to), .d (.int .i64 at_), .d (strs text)]] (.d (.str (putB 6 br who path to at_ text))) := by
  refine Fun.of ?_ rfl rfl
  refine Spec.of (fn := Tryd.f25) Tryd.func25 rfl (by kernel_rfl) (rs := [.tmp 2]) rfl 1 (by simp [Tryd.f25]) rfl (by simp) ?_
  intro hreal
  rintro ⟨P, T, L0, w0, ι0, C0, U0⟩ hP hT hU
  subst hP hT
  refine st ?_
  have hd := dec_size at_
  all_goals first
  | fail_if_success with_reducible refine atR 0 ?_
  | (
    refine rg 0 [] [some 1, some 2] 2 ?_
    all_goals iterate 2 refine qP ?_
    all_goals refine qE ?_)
  all_goals first
  | fail_if_success with_reducible refine atR 1 ?_
  | (
    refine rg 1 [] [some 6, some 7, some 8] 3 ?_
    all_goals refine qP ?_
    all_goals (
      refine qL_cons ?_
      intro R hR
      refine sm ?_
      refine call_fun (implOpOk_all 6 br who path to at_ text hp ht) [] ?_ (.inl rfl) ?_
      · exact ⟨.inl rfl, trivial⟩
      refine sm ?_
      simp only [ho]
      all_goals (refine hR _ ?_; clear hR R))
    all_goals refine qP ?_
    all_goals refine qE ?_)
  all_goals first
  | fail_if_success with_reducible refine atC 8 ?_
  | (
    refine cn 8 ?_ ?_ <;> intro hc8 <;> try (cases hc8; done)
    all_goals refine st ?_)
  all_goals try (exfalso; omega)
  all_goals first
  | fail_if_success with_reducible refine atR 2 ?_
  | (
    refine rg 2 [] [some 2] 1 ?_
    all_goals refine qP ?_
    all_goals refine qE ?_)
  all_goals first
  | fail_if_success with_reducible refine atR 3 ?_
  | (
    refine rgD 3 [] [some 9, some 10, some 11, some 12, some 13, some 14, some 15, some 16, some 17, some 18, some 19, some 20, some 21, some 22, some 3] 15 16 ?_
    intro av hav
    have hf1 := freeD 1 hav
    all_goals refine qP ?_
    all_goals (
      refine qL_cons ?_
      intro R hR
      simp only [go_sem, reduceIte, reduceCtorEq, Nat.reduceAdd, Nat.reduceEqDiff, Nat.reduceLeDiff, Nat.reduceLT, Nat.reduceSub, Int.reduceLE, Int.reduceNeg, Int.reduceLT, hf1]
      all_goals (refine hR _ ?_; clear hR R))
    all_goals (
      refine qL_cons ?_
      intro R hR
      simp only [go_sem, reduceIte, reduceCtorEq, Nat.reduceAdd, Nat.reduceEqDiff, Nat.reduceLeDiff, Nat.reduceLT, Nat.reduceSub, Int.reduceLE, Int.reduceNeg, Int.reduceLT, hf1]
      try rw [show IntKind.i64.wrap ((6 : Int) - 1) = 5 from rfl]
      all_goals (refine hR _ ?_; clear hR R))
    all_goals (
      refine qL_cons ?_
      intro R hR
      simp only [go_sem, reduceIte, reduceCtorEq, Nat.reduceAdd, Nat.reduceEqDiff, Nat.reduceLeDiff, Nat.reduceLT, Nat.reduceSub, Int.reduceLE, Int.reduceNeg, Int.reduceLT, hf1]
      try refine ⟨⟨by decide, by decide⟩, ?_⟩
      repeat refine ⟨by decide, ?_⟩
      simp only [Int.reduceToNat, Int.toNat_zero, Int.toNat_one, Nat.mul_one, Nat.reduceMul, List.drop_succ_cons, List.drop_zero, List.take_succ_cons, List.take_zero]
      all_goals (refine hR _ ?_; clear hR R))
    all_goals (
      refine qL_cons ?_
      intro R hR
      simp only [go_sem, reduceIte, reduceCtorEq, Nat.reduceAdd, Nat.reduceEqDiff, Nat.reduceLeDiff, Nat.reduceLT, Nat.reduceSub, Int.reduceLE, Int.reduceNeg, Int.reduceLT, hf1]
      all_goals (refine hR _ ?_; clear hR R))
    all_goals (
      refine qL_cons ?_
      intro R hR
      simp only [go_sem, reduceIte, reduceCtorEq, Nat.reduceAdd, Nat.reduceEqDiff, Nat.reduceLeDiff, Nat.reduceLT, Nat.reduceSub, Int.reduceLE, Int.reduceNeg, Int.reduceLT, hf1]
      first
      | refine ⟨(by first | omega | (simp only [ByteArray.size_append, size_mk, List.size_toArray, List.length_cons, List.length_nil]; omega)), ?_⟩
      | skip
      all_goals (refine hR _ ?_; clear hR R))
    all_goals refine qP ?_
    all_goals (
      refine qL_cons ?_
      intro R hR
      simp only [go_sem, reduceIte, reduceCtorEq, Nat.reduceAdd, Nat.reduceEqDiff, Nat.reduceLeDiff, Nat.reduceLT, Nat.reduceSub, Int.reduceLE, Int.reduceNeg, Int.reduceLT, hf1]
      all_goals (refine hR _ ?_; clear hR R))
    all_goals (
      refine qL_cons ?_
      intro R hR
      simp only [go_sem, reduceIte, reduceCtorEq, Nat.reduceAdd, Nat.reduceEqDiff, Nat.reduceLeDiff, Nat.reduceLT, Nat.reduceSub, Int.reduceLE, Int.reduceNeg, Int.reduceLT, hf1]
      first
      | refine ⟨(by first | omega | (simp only [ByteArray.size_append, size_mk, List.size_toArray, List.length_cons, List.length_nil]; omega)), ?_⟩
      | skip
      all_goals (refine hR _ ?_; clear hR R))
    all_goals (
      refine qL_cons ?_
      intro R hR
      simp only [go_sem, reduceIte, reduceCtorEq, Nat.reduceAdd, Nat.reduceEqDiff, Nat.reduceLeDiff, Nat.reduceLT, Nat.reduceSub, Int.reduceLE, Int.reduceNeg, Int.reduceLT, hf1]
      first
      | refine ⟨(by first | omega | (simp only [ByteArray.size_append, size_mk, List.size_toArray, List.length_cons, List.length_nil]; omega)), ?_⟩
      | skip
      all_goals (refine hR _ ?_; clear hR R))
    all_goals refine qP ?_
    all_goals (
      refine qL_cons ?_
      intro R hR
      simp only [go_sem, reduceIte, reduceCtorEq, Nat.reduceAdd, Nat.reduceEqDiff, Nat.reduceLeDiff, Nat.reduceLT, Nat.reduceSub, Int.reduceLE, Int.reduceNeg, Int.reduceLT, hf1]
      all_goals (refine hR _ ?_; clear hR R))
    all_goals (
      refine qL_cons ?_
      intro R hR
      simp only [go_sem, reduceIte, reduceCtorEq, Nat.reduceAdd, Nat.reduceEqDiff, Nat.reduceLeDiff, Nat.reduceLT, Nat.reduceSub, Int.reduceLE, Int.reduceNeg, Int.reduceLT, hf1]
      first
      | refine ⟨(by first | omega | (simp only [ByteArray.size_append, size_mk, List.size_toArray, List.length_cons, List.length_nil]; omega)), ?_⟩
      | skip
      all_goals (refine hR _ ?_; clear hR R))
    all_goals (
      refine qL_cons ?_
      intro R hR
      simp only [go_sem, reduceIte, reduceCtorEq, Nat.reduceAdd, Nat.reduceEqDiff, Nat.reduceLeDiff, Nat.reduceLT, Nat.reduceSub, Int.reduceLE, Int.reduceNeg, Int.reduceLT, hf1]
      first
      | refine ⟨(by first | omega | (simp only [ByteArray.size_append, size_mk, List.size_toArray, List.length_cons, List.length_nil]; omega)), ?_⟩
      | skip
      all_goals (refine hR _ ?_; clear hR R))
    all_goals refine qP ?_
    all_goals refine qE ?_
    all_goals clear hf1 hav av)
  all_goals first
  | fail_if_success with_reducible refine atR 4 ?_
  | (
    refine rg 4 [] [some 23, some 24] 2 ?_
    all_goals iterate 2 refine qP ?_
    all_goals refine qE ?_)
  all_goals first
  | fail_if_success with_reducible refine atR 6 ?_
  | (
    refine rg 6 [] [some 31, some 30] 2 ?_
    all_goals iterate 2 refine qP ?_
    all_goals refine qE ?_)
  all_goals first
  | fail_if_success with_reducible refine atC 30 ?_
  | (
    refine cn 30 ?_ ?_ <;> intro hc30 <;> try (cases hc30; done)
    all_goals refine st ?_)
  all_goals try (exfalso; omega)
  all_goals first
  | fail_if_success with_reducible refine atR 7 ?_
  | (
    refine rg 7 [] [some 32, some 33, some 34, some 35, some 36, some 3] 6 ?_
    all_goals iterate 3 refine qP ?_
    all_goals (
      refine qL_cons ?_
      intro R hR
      refine sm ?_
      first
      | refine ⟨(by first | omega | (simp only [ByteArray.size_append, size_mk, List.size_toArray, List.length_cons, List.length_nil]; omega)), ?_⟩
      | skip
      all_goals (refine hR _ ?_; clear hR R))
    all_goals (
      refine qL_cons ?_
      intro R hR
      refine sm ?_
      first
      | refine ⟨(by first | omega | (simp only [ByteArray.size_append, size_mk, List.size_toArray, List.length_cons, List.length_nil]; omega)), ?_⟩
      | skip
      all_goals (refine hR _ ?_; clear hR R))
    all_goals refine qP ?_
    all_goals refine qE ?_)
  all_goals first
  | fail_if_success with_reducible refine atR 8 ?_
  | (
    refine rg 8 [] [some 37, some 38, some 39, some 40] 4 ?_
    all_goals iterate 4 refine qP ?_
    all_goals refine qE ?_)
  all_goals first
  | fail_if_success with_reducible refine atR 13 ?_
  | (
    refine rg 13 [] [some 50, some 49] 2 ?_
    all_goals iterate 2 refine qP ?_
    all_goals refine qE ?_)
  all_goals first
  | fail_if_success with_reducible refine atC 49 ?_
  | (
    refine cn 49 ?_ ?_ <;> intro hc49 <;> try (cases hc49; done)
    all_goals refine st ?_)
  all_goals try (exfalso; omega)
  all_goals first
  | fail_if_success with_reducible refine atR 14 ?_
  | (
    refine rg 14 [] [some 51, some 52, some 53, some 54, some 3] 5 ?_
    all_goals iterate 3 refine qP ?_
    all_goals (
      refine qL_cons ?_
      intro R hR
      refine sm ?_
      first
      | refine ⟨(by first | omega | (simp only [ByteArray.size_append, size_mk, List.size_toArray, List.length_cons, List.length_nil]; omega)), ?_⟩
      | skip
      all_goals (refine hR _ ?_; clear hR R))
    all_goals refine qP ?_
    all_goals refine qE ?_)
  all_goals first
  | fail_if_success with_reducible refine atR 15 ?_
  | (
    refine rg 15 [] [some 56, some 55] 2 ?_
    all_goals iterate 2 refine qP ?_
    all_goals refine qE ?_)
  all_goals first
  | fail_if_success with_reducible refine atC 55 ?_
  | (
    refine cn 55 ?_ ?_ <;> intro hc55 <;> try (cases hc55; done)
    all_goals refine st ?_)
  all_goals try (exfalso; omega)
  all_goals first
  | fail_if_success with_reducible refine atR 16 ?_
  | (
    refine rg 16 [] [some 57, some 58, some 59, some 60, some 61, some 62, some 63, some 64, some 3] 9 ?_
    all_goals iterate 3 refine qP ?_
    all_goals (
      refine qL_cons ?_
      intro R hR
      refine sm ?_
      first
      | refine ⟨(by first | omega | (simp only [ByteArray.size_append, size_mk, List.size_toArray, List.length_cons, List.length_nil]; omega)), ?_⟩
      | skip
      all_goals (refine hR _ ?_; clear hR R))
    all_goals iterate 2 refine qP ?_
    all_goals (
      refine qL_cons ?_
      intro R hR
      refine sm ?_
      first
      | refine ⟨(by first | omega | (simp only [ByteArray.size_append, size_mk, List.size_toArray, List.length_cons, List.length_nil]; omega)), ?_⟩
      | skip
      all_goals (refine hR _ ?_; clear hR R))
    all_goals (
      refine qL_cons ?_
      intro R hR
      refine sm ?_
      first
      | refine ⟨(by first | omega | (simp only [ByteArray.size_append, size_mk, List.size_toArray, List.length_cons, List.length_nil]; omega)), ?_⟩
      | skip
      all_goals (refine hR _ ?_; clear hR R))
    all_goals refine qP ?_
    all_goals refine qE ?_)
  all_goals first
  | fail_if_success with_reducible refine atR 17 ?_
  | (
    refine rg 17 [] [some 66, some 65] 2 ?_
    all_goals iterate 2 refine qP ?_
    all_goals refine qE ?_)
  all_goals first
  | fail_if_success with_reducible refine atC 65 ?_
  | (
    refine cn 65 ?_ ?_ <;> intro hc65 <;> try (cases hc65; done)
    all_goals refine st ?_)
  all_goals try (exfalso; omega)
  all_goals first
  | fail_if_success with_reducible refine atR 18 ?_
  | (
    refine rg 18 [] [some 67, some 65] 2 ?_
    all_goals iterate 2 refine qP ?_
    all_goals refine qE ?_)
  all_goals first
  | fail_if_success with_reducible refine atC 65 ?_
  | (
    refine cn 65 ?_ ?_ <;> intro hc65 <;> try (cases hc65; done)
    all_goals refine st ?_)
  all_goals try (exfalso; omega)
  all_goals first
  | fail_if_success with_reducible refine atR 19 ?_
  | (
    refine rg 19 [] [some 68, some 69, some 70, some 71, some 3] 5 ?_
    all_goals iterate 3 refine qP ?_
    all_goals (
      refine qL_cons ?_
      intro R hR
      refine sm ?_
      first
      | refine ⟨(by first | omega | (simp only [ByteArray.size_append, size_mk, List.size_toArray, List.length_cons, List.length_nil]; omega)), ?_⟩
      | skip
      all_goals (refine hR _ ?_; clear hR R))
    all_goals refine qP ?_
    all_goals refine qE ?_)
  all_goals first
  | fail_if_success with_reducible refine atR 5 ?_
  | (
    refine rg 5 [] [some 25, some 26, some 27, some 28, some 29, some 3] 6 ?_
    all_goals iterate 3 refine qP ?_
    all_goals (
      refine qL_cons ?_
      intro R hR
      refine sm ?_
      refine call_fun (Itoa_spec at_ ha.1 ha.2) [] ?_ (.inl rfl) ?_
      · exact ⟨.inl rfl, trivial⟩
      refine sm ?_
      all_goals (refine hR _ ?_; clear hR R))
    all_goals (
      refine qL_cons ?_
      intro R hR
      refine sm ?_
      first
      | refine ⟨(by first | omega | (simp only [ByteArray.size_append, size_mk, List.size_toArray, List.length_cons, List.length_nil]; omega)), ?_⟩
      | skip
      all_goals (refine hR _ ?_; clear hR R))
    all_goals refine qP ?_
    all_goals refine qE ?_)
  all_goals first
  | fail_if_success with_reducible refine atR 20 ?_
  | (
    refine rg 20 [] [some 72, some 2] 2 ?_
    all_goals iterate 2 refine qP ?_
    all_goals refine qE ?_)
  all_goals first
  | fail_if_success with_reducible refine ret_fun (t := 2) ?_ ?_
  | (
    refine ret_fun (t := 2) ?_ (fun _ => rfl)
    first
    | exact cl
    | (
      try refine sm ?_
      all_goals (
       (congr 2; simp [putB, headB, wordB, ByteArray.append_assoc]; done))))

end
section
attribute [local go_sem] tsz9 tsz39 tel39 toNat_cast und9 und4 und5b tsz44 tfld44 tsz3' sS tarr68 tel68 known0
theorem l19Put_6 (br who path to : ByteArray) (at_ : Int) (text : List ByteArray) (hb : br.size ≤ 1000000) (hw : who.size ≤ 1000000) (hp : path.size ≤ 1000000) (ht : to.size ≤ 1000000) (hl : text.length ≤ 1000000) (hls : ∀ l ∈ text, l.size ≤ 1000000) (ha : 0 ≤ at_ ∧ at_ ≤ 15) : Fun Tryd.prog 54 [.ag [.d (.int .i64 6), .d (.str br), .d (.str who), .d (.str path), .d (.str to), .d (.int .i64 at_), .d (strs text)]] (.d (.str (putB 6 br who path to at_ text))) := by
  refine Fun.of ?_ rfl rfl
  refine Spec.of (fn := Tryd.f54) Tryd.func54 rfl (by kernel_rfl) (rs := [.tmp 2]) rfl 1 (by simp [Tryd.f54]) rfl (by simp) ?_
  intro hreal
  rintro ⟨P, T, L0, w0, ι0, C0, U0⟩ hP hT hU
  subst hP hT
  refine st ?_
  have hd := dec_size at_
  all_goals first
  | fail_if_success with_reducible refine atR 0 ?_
  | (
    refine rg 0 [] [some 1, some 2] 2 ?_
    all_goals iterate 2 refine qP ?_
    all_goals refine qE ?_)
  all_goals first
  | fail_if_success with_reducible refine atR 1 ?_
  | (
    refine rgD 1 [] [some 5, some 6, some 7, some 8, some 9, some 10, some 11, some 12, some 13, some 14, some 15, some 16, some 17, some 3] 14 15 ?_
    intro av hav
    have hf1 := freeD 1 hav
    all_goals (
      refine qL_cons ?_
      intro R hR
      simp only [go_sem, reduceIte, reduceCtorEq, Nat.reduceAdd, Nat.reduceEqDiff, Nat.reduceLeDiff, Nat.reduceLT, Nat.reduceSub, Int.reduceLE, Int.reduceNeg, Int.reduceLT, hf1]
      refine call_fun (l19Words_spec) [] ?_ (.inl rfl) ?_
      · exact trivial
      simp only [go_sem, reduceIte, reduceCtorEq, Nat.reduceAdd, Nat.reduceEqDiff, Nat.reduceLeDiff, Nat.reduceLT, Nat.reduceSub, Int.reduceLE, Int.reduceNeg, Int.reduceLT, hf1]
      all_goals (refine hR _ ?_; clear hR R))
    all_goals refine qP ?_
    all_goals (
      refine qL_cons ?_
      intro R hR
      simp only [go_sem, reduceIte, reduceCtorEq, Nat.reduceAdd, Nat.reduceEqDiff, Nat.reduceLeDiff, Nat.reduceLT, Nat.reduceSub, Int.reduceLE, Int.reduceNeg, Int.reduceLT, hf1]
      all_goals (refine hR _ ?_; clear hR R))
    all_goals (
      refine qL_cons ?_
      intro R hR
      simp only [go_sem, reduceIte, reduceCtorEq, Nat.reduceAdd, Nat.reduceEqDiff, Nat.reduceLeDiff, Nat.reduceLT, Nat.reduceSub, Int.reduceLE, Int.reduceNeg, Int.reduceLT, hf1]
      try refine ⟨⟨by decide, by decide⟩, ?_⟩
      repeat refine ⟨by decide, ?_⟩
      intro c hc
      obtain rfl := Option.some.inj hc.symm
      refine ⟨rfl, ?_⟩
      all_goals (refine hR _ ?_; clear hR R))
    all_goals (
      refine qL_cons ?_
      intro R hR
      simp only [go_sem, reduceIte, reduceCtorEq, Nat.reduceAdd, Nat.reduceEqDiff, Nat.reduceLeDiff, Nat.reduceLT, Nat.reduceSub, Int.reduceLE, Int.reduceNeg, Int.reduceLT, hf1]
      all_goals (refine hR _ ?_; clear hR R))
    all_goals (
      refine qL_cons ?_
      intro R hR
      simp only [go_sem, reduceIte, reduceCtorEq, Nat.reduceAdd, Nat.reduceEqDiff, Nat.reduceLeDiff, Nat.reduceLT, Nat.reduceSub, Int.reduceLE, Int.reduceNeg, Int.reduceLT, hf1]
      first
      | refine ⟨(by first | omega | (simp only [ByteArray.size_append, size_mk, List.size_toArray, List.length_cons, List.length_nil]; omega)), ?_⟩
      | skip
      all_goals (refine hR _ ?_; clear hR R))
    all_goals refine qP ?_
    all_goals (
      refine qL_cons ?_
      intro R hR
      simp only [go_sem, reduceIte, reduceCtorEq, Nat.reduceAdd, Nat.reduceEqDiff, Nat.reduceLeDiff, Nat.reduceLT, Nat.reduceSub, Int.reduceLE, Int.reduceNeg, Int.reduceLT, hf1]
      all_goals (refine hR _ ?_; clear hR R))
    all_goals (
      refine qL_cons ?_
      intro R hR
      simp only [go_sem, reduceIte, reduceCtorEq, Nat.reduceAdd, Nat.reduceEqDiff, Nat.reduceLeDiff, Nat.reduceLT, Nat.reduceSub, Int.reduceLE, Int.reduceNeg, Int.reduceLT, hf1]
      first
      | refine ⟨(by first | omega | (simp only [ByteArray.size_append, size_mk, List.size_toArray, List.length_cons, List.length_nil]; omega)), ?_⟩
      | skip
      all_goals (refine hR _ ?_; clear hR R))
    all_goals (
      refine qL_cons ?_
      intro R hR
      simp only [go_sem, reduceIte, reduceCtorEq, Nat.reduceAdd, Nat.reduceEqDiff, Nat.reduceLeDiff, Nat.reduceLT, Nat.reduceSub, Int.reduceLE, Int.reduceNeg, Int.reduceLT, hf1]
      first
      | refine ⟨(by first | omega | (simp only [ByteArray.size_append, size_mk, List.size_toArray, List.length_cons, List.length_nil]; omega)), ?_⟩
      | skip
      all_goals (refine hR _ ?_; clear hR R))
    all_goals refine qP ?_
    all_goals (
      refine qL_cons ?_
      intro R hR
      simp only [go_sem, reduceIte, reduceCtorEq, Nat.reduceAdd, Nat.reduceEqDiff, Nat.reduceLeDiff, Nat.reduceLT, Nat.reduceSub, Int.reduceLE, Int.reduceNeg, Int.reduceLT, hf1]
      all_goals (refine hR _ ?_; clear hR R))
    all_goals (
      refine qL_cons ?_
      intro R hR
      simp only [go_sem, reduceIte, reduceCtorEq, Nat.reduceAdd, Nat.reduceEqDiff, Nat.reduceLeDiff, Nat.reduceLT, Nat.reduceSub, Int.reduceLE, Int.reduceNeg, Int.reduceLT, hf1]
      first
      | refine ⟨(by first | omega | (simp only [ByteArray.size_append, size_mk, List.size_toArray, List.length_cons, List.length_nil]; omega)), ?_⟩
      | skip
      all_goals (refine hR _ ?_; clear hR R))
    all_goals refine qP ?_
    all_goals refine qE ?_
    all_goals clear hf1 hav av)
  all_goals first
  | fail_if_success with_reducible refine atR 2 ?_
  | (
    refine rg 2 [] [some 18, some 19] 2 ?_
    all_goals iterate 2 refine qP ?_
    all_goals refine qE ?_)
  all_goals first
  | fail_if_success with_reducible refine atR 4 ?_
  | (
    refine rg 4 [] [some 27, some 26] 2 ?_
    all_goals iterate 2 refine qP ?_
    all_goals refine qE ?_)
  all_goals first
  | fail_if_success with_reducible refine atC 26 ?_
  | (
    refine cn 26 ?_ ?_ <;> intro hc26 <;> try (cases hc26; done)
    all_goals refine st ?_)
  all_goals try (exfalso; omega)
  all_goals first
  | fail_if_success with_reducible refine atR 5 ?_
  | (
    refine rg 5 [] [some 28, some 29, some 30, some 31, some 32, some 33, some 3] 7 ?_
    all_goals refine qP ?_
    all_goals (
      refine qL_cons ?_
      intro R hR
      refine sm ?_
      first
      | refine ⟨(by first | omega | (simp only [ByteArray.size_append, size_mk, List.size_toArray, List.length_cons, List.length_nil]; omega)), ?_⟩
      | skip
      all_goals (refine hR _ ?_; clear hR R))
    all_goals iterate 2 refine qP ?_
    all_goals (
      refine qL_cons ?_
      intro R hR
      refine sm ?_
      first
      | refine ⟨(by first | omega | (simp only [ByteArray.size_append, size_mk, List.size_toArray, List.length_cons, List.length_nil]; omega)), ?_⟩
      | skip
      all_goals (refine hR _ ?_; clear hR R))
    all_goals (
      refine qL_cons ?_
      intro R hR
      refine sm ?_
      first
      | refine ⟨(by first | omega | (simp only [ByteArray.size_append, size_mk, List.size_toArray, List.length_cons, List.length_nil]; omega)), ?_⟩
      | skip
      all_goals (refine hR _ ?_; clear hR R))
    all_goals refine qP ?_
    all_goals refine qE ?_)
  all_goals first
  | fail_if_success with_reducible refine atR 6 ?_
  | (
    refine rg 6 [] [some 4] 1 ?_
    all_goals refine qP ?_
    all_goals refine qE ?_)
  all_goals first
  | fail_if_success with_reducible refine atR 10 ?_
  | (
    refine rg 10 [] [some 50, some 49] 2 ?_
    all_goals iterate 2 refine qP ?_
    all_goals refine qE ?_)
  all_goals first
  | fail_if_success with_reducible refine atC 49 ?_
  | (
    refine cn 49 ?_ ?_ <;> intro hc49 <;> try (cases hc49; done)
    all_goals refine st ?_)
  all_goals try (exfalso; omega)
  all_goals first
  | fail_if_success with_reducible refine atR 11 ?_
  | (
    refine rg 11 [] [some 51, some 52, some 53, some 54, some 55, some 3] 6 ?_
    all_goals refine qP ?_
    all_goals (
      refine qL_cons ?_
      intro R hR
      refine sm ?_
      first
      | refine ⟨(by first | omega | (simp only [ByteArray.size_append, size_mk, List.size_toArray, List.length_cons, List.length_nil]; omega)), ?_⟩
      | skip
      all_goals (refine hR _ ?_; clear hR R))
    all_goals iterate 2 refine qP ?_
    all_goals (
      refine qL_cons ?_
      intro R hR
      refine sm ?_
      first
      | refine ⟨(by first | omega | (simp only [ByteArray.size_append, size_mk, List.size_toArray, List.length_cons, List.length_nil]; omega)), ?_⟩
      | skip
      all_goals (refine hR _ ?_; clear hR R))
    all_goals refine qP ?_
    all_goals refine qE ?_)
  all_goals first
  | fail_if_success with_reducible refine atR 12 ?_
  | (
    refine rg 12 [] [some 57, some 56] 2 ?_
    all_goals iterate 2 refine qP ?_
    all_goals refine qE ?_)
  all_goals first
  | fail_if_success with_reducible refine atC 56 ?_
  | (
    refine cn 56 ?_ ?_ <;> intro hc56 <;> try (cases hc56; done)
    all_goals refine st ?_)
  all_goals try (exfalso; omega)
  all_goals first
  | fail_if_success with_reducible refine atR 13 ?_
  | (
    refine rg 13 [] [some 58, some 59, some 60, some 61, some 62, some 63, some 64, some 65, some 66, some 3] 10 ?_
    all_goals refine qP ?_
    all_goals (
      refine qL_cons ?_
      intro R hR
      refine sm ?_
      first
      | refine ⟨(by first | omega | (simp only [ByteArray.size_append, size_mk, List.size_toArray, List.length_cons, List.length_nil]; omega)), ?_⟩
      | skip
      all_goals (refine hR _ ?_; clear hR R))
    all_goals iterate 2 refine qP ?_
    all_goals (
      refine qL_cons ?_
      intro R hR
      refine sm ?_
      first
      | refine ⟨(by first | omega | (simp only [ByteArray.size_append, size_mk, List.size_toArray, List.length_cons, List.length_nil]; omega)), ?_⟩
      | skip
      all_goals (refine hR _ ?_; clear hR R))
    all_goals (
      refine qL_cons ?_
      intro R hR
      refine sm ?_
      first
      | refine ⟨(by first | omega | (simp only [ByteArray.size_append, size_mk, List.size_toArray, List.length_cons, List.length_nil]; omega)), ?_⟩
      | skip
      all_goals (refine hR _ ?_; clear hR R))
    all_goals iterate 2 refine qP ?_
    all_goals (
      refine qL_cons ?_
      intro R hR
      refine sm ?_
      first
      | refine ⟨(by first | omega | (simp only [ByteArray.size_append, size_mk, List.size_toArray, List.length_cons, List.length_nil]; omega)), ?_⟩
      | skip
      all_goals (refine hR _ ?_; clear hR R))
    all_goals refine qP ?_
    all_goals refine qE ?_)
  all_goals first
  | fail_if_success with_reducible refine atR 14 ?_
  | (
    refine rg 14 [] [some 68, some 67] 2 ?_
    all_goals iterate 2 refine qP ?_
    all_goals refine qE ?_)
  all_goals first
  | fail_if_success with_reducible refine atC 67 ?_
  | (
    refine cn 67 ?_ ?_ <;> intro hc67 <;> try (cases hc67; done)
    all_goals refine st ?_)
  all_goals try (exfalso; omega)
  all_goals first
  | fail_if_success with_reducible refine atR 15 ?_
  | (
    refine rg 15 [] [some 69, some 67] 2 ?_
    all_goals iterate 2 refine qP ?_
    all_goals refine qE ?_)
  all_goals first
  | fail_if_success with_reducible refine atC 67 ?_
  | (
    refine cn 67 ?_ ?_ <;> intro hc67 <;> try (cases hc67; done)
    all_goals refine st ?_)
  all_goals try (exfalso; omega)
  all_goals first
  | fail_if_success with_reducible refine atR 16 ?_
  | (
    refine rg 16 [] [some 70, some 71, some 72, some 73, some 74, some 3] 6 ?_
    all_goals refine qP ?_
    all_goals (
      refine qL_cons ?_
      intro R hR
      refine sm ?_
      first
      | refine ⟨(by first | omega | (simp only [ByteArray.size_append, size_mk, List.size_toArray, List.length_cons, List.length_nil]; omega)), ?_⟩
      | skip
      all_goals (refine hR _ ?_; clear hR R))
    all_goals iterate 2 refine qP ?_
    all_goals (
      refine qL_cons ?_
      intro R hR
      refine sm ?_
      first
      | refine ⟨(by first | omega | (simp only [ByteArray.size_append, size_mk, List.size_toArray, List.length_cons, List.length_nil]; omega)), ?_⟩
      | skip
      all_goals (refine hR _ ?_; clear hR R))
    all_goals refine qP ?_
    all_goals refine qE ?_)
  all_goals first
  | fail_if_success with_reducible refine atR 3 ?_
  | (
    refine rg 3 [] [some 20, some 21, some 22, some 23, some 24, some 25, some 3] 7 ?_
    all_goals refine qP ?_
    all_goals (
      refine qL_cons ?_
      intro R hR
      refine sm ?_
      first
      | refine ⟨(by first | omega | (simp only [ByteArray.size_append, size_mk, List.size_toArray, List.length_cons, List.length_nil]; omega)), ?_⟩
      | skip
      all_goals (refine hR _ ?_; clear hR R))
    all_goals iterate 2 refine qP ?_
    all_goals (
      refine qL_cons ?_
      intro R hR
      refine sm ?_
      refine call_fun (l1Dec_spec at_ ha.1 ha.2) [] ?_ (.inl rfl) ?_
      · exact ⟨.inl rfl, trivial⟩
      refine sm ?_
      all_goals (refine hR _ ?_; clear hR R))
    all_goals (
      refine qL_cons ?_
      intro R hR
      refine sm ?_
      first
      | refine ⟨(by first | omega | (simp only [ByteArray.size_append, size_mk, List.size_toArray, List.length_cons, List.length_nil]; omega)), ?_⟩
      | skip
      all_goals (refine hR _ ?_; clear hR R))
    all_goals refine qP ?_
    all_goals refine qE ?_)
  all_goals first
  | fail_if_success with_reducible refine atR 17 ?_
  | (
    refine rg 17 [] [some 75, some 2] 2 ?_
    all_goals iterate 2 refine qP ?_
    all_goals refine qE ?_)
  all_goals first
  | fail_if_success with_reducible refine ret_fun (t := 2) ?_ ?_
  | (
    refine ret_fun (t := 2) ?_ (fun _ => rfl)
    first
    | exact cl
    | (
      try refine sm ?_
      all_goals (
       (congr 2; simp [putB, headB, wordB, ByteArray.append_assoc]; done))))

end
end Go.Proofs.YtkbnkcdaiahoeaaDoor
namespace Go.Proofs.YtkbnkcdaiahoeaaDoor
open Go Go.RowKit Go.Shelf
set_option maxRecDepth 100000
set_option maxHeartbeats 4000000
set_option linter.unusedSimpArgs false
set_option linter.unusedVariables false
attribute [local go_sem] List.size_toArray Int.toNat_zero Nat.sub_zero size_mk top_val eq_self datL X.dat u8min u8max i64min i64max stepT gdO aop ev lit litOk putF fzX_false putO upd app List.contains_nil List.elem_nil aBin aInt aStr aBool aLen lenTy aBuiltin aLoad aTake aTakeX aStore splice aSlice aBd look_cons look_nil lookC_cons lookC_nil by_s by_C start_s start_C X.cells X.cell List.all_cons List.all_nil Bool.and_self Bool.not_true Bool.not_false false_implies true_implies forall_const and_true true_and and_self implies_true not_false_eq_true Nat.zero_add Nat.add_zero List.getD_cons_zero List.getD_cons_succ List.map_cons List.map_nil Option.bind_some Option.map_some Option.map_none List.getElem?_cons_zero List.getElem?_cons_succ List.length_cons List.length_nil List.drop_zero List.drop_succ_cons List.take_succ_cons List.take_zero List.cons_append List.nil_append List.append_nil D.of List.length_map all_get_map Option.isSome_some and_false false_and Nat.lt_add_one Nat.zero_lt_succ decide_true decide_false aPart aSl2 Nat.lt_irrefl fzX litEs List.contains_cons List.elem_cons Bool.true_or Bool.or_true Bool.false_or Bool.or_false beq_self_eq_true
section
attribute [local go_sem] tsz9 tsz39 tel39 toNat_cast und9 und4 und5b tsz44 tfld44 tsz3' sS tarr68 tel68 known0
theorem implPut_7 (br who path to : ByteArray) (at_ : Int) (text : List ByteArray) (hb : br.size ≤ 1000000) (hw : who.size ≤ 1000000) (hp : path.size ≤ 1000000) (ht : to.size ≤ 1000000) (hl : text.length ≤ 1000000) (hls : ∀ l ∈ text, l.size ≤ 1000000) (ha : 0 ≤ at_ ∧ at_ ≤ 15) (ho : opB 7 br who path to at_ text = true) : Fun Tryd.prog 25 [.ag [.d (.int .i64 7), .d (.str br), .d (.str who), .d (.str path), .d (.str to), .d (.int .i64 at_), .d (strs text)]] (.d (.str (putB 7 br who path to at_ text))) := by
  refine Fun.of ?_ rfl rfl
  refine Spec.of (fn := Tryd.f25) Tryd.func25 rfl (by kernel_rfl) (rs := [.tmp 2]) rfl 1 (by simp [Tryd.f25]) rfl (by simp) ?_
  intro hreal
  rintro ⟨P, T, L0, w0, ι0, C0, U0⟩ hP hT hU
  subst hP hT
  refine st ?_
  have hd := dec_size at_
  all_goals first
  | fail_if_success with_reducible refine atR 0 ?_
  | (
    refine rg 0 [] [some 1, some 2] 2 ?_
    all_goals iterate 2 refine qP ?_
    all_goals refine qE ?_)
  all_goals first
  | fail_if_success with_reducible refine atR 1 ?_
  | (
    refine rg 1 [] [some 6, some 7, some 8] 3 ?_
    all_goals refine qP ?_
    all_goals (
      refine qL_cons ?_
      intro R hR
      refine sm ?_
      refine call_fun (implOpOk_all 7 br who path to at_ text hp ht) [] ?_ (.inl rfl) ?_
      · exact ⟨.inl rfl, trivial⟩
      refine sm ?_
      simp only [ho]
      all_goals (refine hR _ ?_; clear hR R))
    all_goals refine qP ?_
    all_goals refine qE ?_)
  all_goals first
  | fail_if_success with_reducible refine atC 8 ?_
  | (
    refine cn 8 ?_ ?_ <;> intro hc8 <;> try (cases hc8; done)
    all_goals refine st ?_)
  all_goals try (exfalso; omega)
  all_goals first
  | fail_if_success with_reducible refine atR 2 ?_
  | (
    refine rg 2 [] [some 2] 1 ?_
    all_goals refine qP ?_
    all_goals refine qE ?_)
  all_goals first
  | fail_if_success with_reducible refine atR 3 ?_
  | (
    refine rgD 3 [] [some 9, some 10, some 11, some 12, some 13, some 14, some 15, some 16, some 17, some 18, some 19, some 20, some 21, some 22, some 3] 15 16 ?_
    intro av hav
    have hf1 := freeD 1 hav
    all_goals refine qP ?_
    all_goals (
      refine qL_cons ?_
      intro R hR
      simp only [go_sem, reduceIte, reduceCtorEq, Nat.reduceAdd, Nat.reduceEqDiff, Nat.reduceLeDiff, Nat.reduceLT, Nat.reduceSub, Int.reduceLE, Int.reduceNeg, Int.reduceLT, hf1]
      all_goals (refine hR _ ?_; clear hR R))
    all_goals (
      refine qL_cons ?_
      intro R hR
      simp only [go_sem, reduceIte, reduceCtorEq, Nat.reduceAdd, Nat.reduceEqDiff, Nat.reduceLeDiff, Nat.reduceLT, Nat.reduceSub, Int.reduceLE, Int.reduceNeg, Int.reduceLT, hf1]
      try rw [show IntKind.i64.wrap ((7 : Int) - 1) = 6 from rfl]
      all_goals (refine hR _ ?_; clear hR R))
    all_goals (
      refine qL_cons ?_
      intro R hR
      simp only [go_sem, reduceIte, reduceCtorEq, Nat.reduceAdd, Nat.reduceEqDiff, Nat.reduceLeDiff, Nat.reduceLT, Nat.reduceSub, Int.reduceLE, Int.reduceNeg, Int.reduceLT, hf1]
      try refine ⟨⟨by decide, by decide⟩, ?_⟩
      repeat refine ⟨by decide, ?_⟩
      simp only [Int.reduceToNat, Int.toNat_zero, Int.toNat_one, Nat.mul_one, Nat.reduceMul, List.drop_succ_cons, List.drop_zero, List.take_succ_cons, List.take_zero]
      all_goals (refine hR _ ?_; clear hR R))
    all_goals (
      refine qL_cons ?_
      intro R hR
      simp only [go_sem, reduceIte, reduceCtorEq, Nat.reduceAdd, Nat.reduceEqDiff, Nat.reduceLeDiff, Nat.reduceLT, Nat.reduceSub, Int.reduceLE, Int.reduceNeg, Int.reduceLT, hf1]
      all_goals (refine hR _ ?_; clear hR R))
    all_goals (
      refine qL_cons ?_
      intro R hR
      simp only [go_sem, reduceIte, reduceCtorEq, Nat.reduceAdd, Nat.reduceEqDiff, Nat.reduceLeDiff, Nat.reduceLT, Nat.reduceSub, Int.reduceLE, Int.reduceNeg, Int.reduceLT, hf1]
      first
      | refine ⟨(by first | omega | (simp only [ByteArray.size_append, size_mk, List.size_toArray, List.length_cons, List.length_nil]; omega)), ?_⟩
      | skip
      all_goals (refine hR _ ?_; clear hR R))
    all_goals refine qP ?_
    all_goals (
      refine qL_cons ?_
      intro R hR
      simp only [go_sem, reduceIte, reduceCtorEq, Nat.reduceAdd, Nat.reduceEqDiff, Nat.reduceLeDiff, Nat.reduceLT, Nat.reduceSub, Int.reduceLE, Int.reduceNeg, Int.reduceLT, hf1]
      all_goals (refine hR _ ?_; clear hR R))
    all_goals (
      refine qL_cons ?_
      intro R hR
      simp only [go_sem, reduceIte, reduceCtorEq, Nat.reduceAdd, Nat.reduceEqDiff, Nat.reduceLeDiff, Nat.reduceLT, Nat.reduceSub, Int.reduceLE, Int.reduceNeg, Int.reduceLT, hf1]
      first
      | refine ⟨(by first | omega | (simp only [ByteArray.size_append, size_mk, List.size_toArray, List.length_cons, List.length_nil]; omega)), ?_⟩
      | skip
      all_goals (refine hR _ ?_; clear hR R))
    all_goals (
      refine qL_cons ?_
      intro R hR
      simp only [go_sem, reduceIte, reduceCtorEq, Nat.reduceAdd, Nat.reduceEqDiff, Nat.reduceLeDiff, Nat.reduceLT, Nat.reduceSub, Int.reduceLE, Int.reduceNeg, Int.reduceLT, hf1]
      first
      | refine ⟨(by first | omega | (simp only [ByteArray.size_append, size_mk, List.size_toArray, List.length_cons, List.length_nil]; omega)), ?_⟩
      | skip
      all_goals (refine hR _ ?_; clear hR R))
    all_goals refine qP ?_
    all_goals (
      refine qL_cons ?_
      intro R hR
      simp only [go_sem, reduceIte, reduceCtorEq, Nat.reduceAdd, Nat.reduceEqDiff, Nat.reduceLeDiff, Nat.reduceLT, Nat.reduceSub, Int.reduceLE, Int.reduceNeg, Int.reduceLT, hf1]
      all_goals (refine hR _ ?_; clear hR R))
    all_goals (
      refine qL_cons ?_
      intro R hR
      simp only [go_sem, reduceIte, reduceCtorEq, Nat.reduceAdd, Nat.reduceEqDiff, Nat.reduceLeDiff, Nat.reduceLT, Nat.reduceSub, Int.reduceLE, Int.reduceNeg, Int.reduceLT, hf1]
      first
      | refine ⟨(by first | omega | (simp only [ByteArray.size_append, size_mk, List.size_toArray, List.length_cons, List.length_nil]; omega)), ?_⟩
      | skip
      all_goals (refine hR _ ?_; clear hR R))
    all_goals (
      refine qL_cons ?_
      intro R hR
      simp only [go_sem, reduceIte, reduceCtorEq, Nat.reduceAdd, Nat.reduceEqDiff, Nat.reduceLeDiff, Nat.reduceLT, Nat.reduceSub, Int.reduceLE, Int.reduceNeg, Int.reduceLT, hf1]
      first
      | refine ⟨(by first | omega | (simp only [ByteArray.size_append, size_mk, List.size_toArray, List.length_cons, List.length_nil]; omega)), ?_⟩
      | skip
      all_goals (refine hR _ ?_; clear hR R))
    all_goals refine qP ?_
    all_goals refine qE ?_
    all_goals clear hf1 hav av)
  all_goals first
  | fail_if_success with_reducible refine atR 4 ?_
  | (
    refine rg 4 [] [some 23, some 24] 2 ?_
    all_goals iterate 2 refine qP ?_
    all_goals refine qE ?_)
  all_goals first
  | fail_if_success with_reducible refine atR 6 ?_
  | (
    refine rg 6 [] [some 31, some 30] 2 ?_
    all_goals iterate 2 refine qP ?_
    all_goals refine qE ?_)
  all_goals first
  | fail_if_success with_reducible refine atC 30 ?_
  | (
    refine cn 30 ?_ ?_ <;> intro hc30 <;> try (cases hc30; done)
    all_goals refine st ?_)
  all_goals try (exfalso; omega)
  all_goals first
  | fail_if_success with_reducible refine atR 7 ?_
  | (
    refine rg 7 [] [some 32, some 33, some 34, some 35, some 36, some 3] 6 ?_
    all_goals iterate 3 refine qP ?_
    all_goals (
      refine qL_cons ?_
      intro R hR
      refine sm ?_
      first
      | refine ⟨(by first | omega | (simp only [ByteArray.size_append, size_mk, List.size_toArray, List.length_cons, List.length_nil]; omega)), ?_⟩
      | skip
      all_goals (refine hR _ ?_; clear hR R))
    all_goals (
      refine qL_cons ?_
      intro R hR
      refine sm ?_
      first
      | refine ⟨(by first | omega | (simp only [ByteArray.size_append, size_mk, List.size_toArray, List.length_cons, List.length_nil]; omega)), ?_⟩
      | skip
      all_goals (refine hR _ ?_; clear hR R))
    all_goals refine qP ?_
    all_goals refine qE ?_)
  all_goals first
  | fail_if_success with_reducible refine atR 8 ?_
  | (
    refine rg 8 [] [some 37, some 38, some 39, some 40] 4 ?_
    all_goals iterate 4 refine qP ?_
    all_goals refine qE ?_)
  all_goals first
  | fail_if_success with_reducible refine atR 13 ?_
  | (
    refine rg 13 [] [some 50, some 49] 2 ?_
    all_goals iterate 2 refine qP ?_
    all_goals refine qE ?_)
  all_goals first
  | fail_if_success with_reducible refine atC 49 ?_
  | (
    refine cn 49 ?_ ?_ <;> intro hc49 <;> try (cases hc49; done)
    all_goals refine st ?_)
  all_goals try (exfalso; omega)
  all_goals first
  | fail_if_success with_reducible refine atR 14 ?_
  | (
    refine rg 14 [] [some 51, some 52, some 53, some 54, some 3] 5 ?_
    all_goals iterate 3 refine qP ?_
    all_goals (
      refine qL_cons ?_
      intro R hR
      refine sm ?_
      first
      | refine ⟨(by first | omega | (simp only [ByteArray.size_append, size_mk, List.size_toArray, List.length_cons, List.length_nil]; omega)), ?_⟩
      | skip
      all_goals (refine hR _ ?_; clear hR R))
    all_goals refine qP ?_
    all_goals refine qE ?_)
  all_goals first
  | fail_if_success with_reducible refine atR 15 ?_
  | (
    refine rg 15 [] [some 56, some 55] 2 ?_
    all_goals iterate 2 refine qP ?_
    all_goals refine qE ?_)
  all_goals first
  | fail_if_success with_reducible refine atC 55 ?_
  | (
    refine cn 55 ?_ ?_ <;> intro hc55 <;> try (cases hc55; done)
    all_goals refine st ?_)
  all_goals try (exfalso; omega)
  all_goals first
  | fail_if_success with_reducible refine atR 16 ?_
  | (
    refine rg 16 [] [some 57, some 58, some 59, some 60, some 61, some 62, some 63, some 64, some 3] 9 ?_
    all_goals iterate 3 refine qP ?_
    all_goals (
      refine qL_cons ?_
      intro R hR
      refine sm ?_
      first
      | refine ⟨(by first | omega | (simp only [ByteArray.size_append, size_mk, List.size_toArray, List.length_cons, List.length_nil]; omega)), ?_⟩
      | skip
      all_goals (refine hR _ ?_; clear hR R))
    all_goals iterate 2 refine qP ?_
    all_goals (
      refine qL_cons ?_
      intro R hR
      refine sm ?_
      first
      | refine ⟨(by first | omega | (simp only [ByteArray.size_append, size_mk, List.size_toArray, List.length_cons, List.length_nil]; omega)), ?_⟩
      | skip
      all_goals (refine hR _ ?_; clear hR R))
    all_goals (
      refine qL_cons ?_
      intro R hR
      refine sm ?_
      first
      | refine ⟨(by first | omega | (simp only [ByteArray.size_append, size_mk, List.size_toArray, List.length_cons, List.length_nil]; omega)), ?_⟩
      | skip
      all_goals (refine hR _ ?_; clear hR R))
    all_goals refine qP ?_
    all_goals refine qE ?_)
  all_goals first
  | fail_if_success with_reducible refine atR 17 ?_
  | (
    refine rg 17 [] [some 66, some 65] 2 ?_
    all_goals iterate 2 refine qP ?_
    all_goals refine qE ?_)
  all_goals first
  | fail_if_success with_reducible refine atC 65 ?_
  | (
    refine cn 65 ?_ ?_ <;> intro hc65 <;> try (cases hc65; done)
    all_goals refine st ?_)
  all_goals try (exfalso; omega)
  all_goals first
  | fail_if_success with_reducible refine atR 18 ?_
  | (
    refine rg 18 [] [some 67, some 65] 2 ?_
    all_goals iterate 2 refine qP ?_
    all_goals refine qE ?_)
  all_goals first
  | fail_if_success with_reducible refine atC 65 ?_
  | (
    refine cn 65 ?_ ?_ <;> intro hc65 <;> try (cases hc65; done)
    all_goals refine st ?_)
  all_goals try (exfalso; omega)
  all_goals first
  | fail_if_success with_reducible refine atR 19 ?_
  | (
    refine rg 19 [] [some 68, some 69, some 70, some 71, some 3] 5 ?_
    all_goals iterate 3 refine qP ?_
    all_goals (
      refine qL_cons ?_
      intro R hR
      refine sm ?_
      first
      | refine ⟨(by first | omega | (simp only [ByteArray.size_append, size_mk, List.size_toArray, List.length_cons, List.length_nil]; omega)), ?_⟩
      | skip
      all_goals (refine hR _ ?_; clear hR R))
    all_goals refine qP ?_
    all_goals refine qE ?_)
  all_goals first
  | fail_if_success with_reducible refine atR 5 ?_
  | (
    refine rg 5 [] [some 25, some 26, some 27, some 28, some 29, some 3] 6 ?_
    all_goals iterate 3 refine qP ?_
    all_goals (
      refine qL_cons ?_
      intro R hR
      refine sm ?_
      refine call_fun (Itoa_spec at_ ha.1 ha.2) [] ?_ (.inl rfl) ?_
      · exact ⟨.inl rfl, trivial⟩
      refine sm ?_
      all_goals (refine hR _ ?_; clear hR R))
    all_goals (
      refine qL_cons ?_
      intro R hR
      refine sm ?_
      first
      | refine ⟨(by first | omega | (simp only [ByteArray.size_append, size_mk, List.size_toArray, List.length_cons, List.length_nil]; omega)), ?_⟩
      | skip
      all_goals (refine hR _ ?_; clear hR R))
    all_goals refine qP ?_
    all_goals refine qE ?_)
  all_goals first
  | fail_if_success with_reducible refine atR 20 ?_
  | (
    refine rg 20 [] [some 72, some 2] 2 ?_
    all_goals iterate 2 refine qP ?_
    all_goals refine qE ?_)
  all_goals first
  | fail_if_success with_reducible refine ret_fun (t := 2) ?_ ?_
  | (
    refine ret_fun (t := 2) ?_ (fun _ => rfl)
    first
    | exact cl
    | (
      try refine sm ?_
      all_goals (
       (congr 2; simp [putB, headB, wordB, ByteArray.append_assoc]; done))))

end
section
attribute [local go_sem] tsz9 tsz39 tel39 toNat_cast und9 und4 und5b tsz44 tfld44 tsz3' sS tarr68 tel68 known0
theorem l19Put_7 (br who path to : ByteArray) (at_ : Int) (text : List ByteArray) (hb : br.size ≤ 1000000) (hw : who.size ≤ 1000000) (hp : path.size ≤ 1000000) (ht : to.size ≤ 1000000) (hl : text.length ≤ 1000000) (hls : ∀ l ∈ text, l.size ≤ 1000000) (ha : 0 ≤ at_ ∧ at_ ≤ 15) : Fun Tryd.prog 54 [.ag [.d (.int .i64 7), .d (.str br), .d (.str who), .d (.str path), .d (.str to), .d (.int .i64 at_), .d (strs text)]] (.d (.str (putB 7 br who path to at_ text))) := by
  refine Fun.of ?_ rfl rfl
  refine Spec.of (fn := Tryd.f54) Tryd.func54 rfl (by kernel_rfl) (rs := [.tmp 2]) rfl 1 (by simp [Tryd.f54]) rfl (by simp) ?_
  intro hreal
  rintro ⟨P, T, L0, w0, ι0, C0, U0⟩ hP hT hU
  subst hP hT
  refine st ?_
  have hd := dec_size at_
  all_goals first
  | fail_if_success with_reducible refine atR 0 ?_
  | (
    refine rg 0 [] [some 1, some 2] 2 ?_
    all_goals iterate 2 refine qP ?_
    all_goals refine qE ?_)
  all_goals first
  | fail_if_success with_reducible refine atR 1 ?_
  | (
    refine rgD 1 [] [some 5, some 6, some 7, some 8, some 9, some 10, some 11, some 12, some 13, some 14, some 15, some 16, some 17, some 3] 14 15 ?_
    intro av hav
    have hf1 := freeD 1 hav
    all_goals (
      refine qL_cons ?_
      intro R hR
      simp only [go_sem, reduceIte, reduceCtorEq, Nat.reduceAdd, Nat.reduceEqDiff, Nat.reduceLeDiff, Nat.reduceLT, Nat.reduceSub, Int.reduceLE, Int.reduceNeg, Int.reduceLT, hf1]
      refine call_fun (l19Words_spec) [] ?_ (.inl rfl) ?_
      · exact trivial
      simp only [go_sem, reduceIte, reduceCtorEq, Nat.reduceAdd, Nat.reduceEqDiff, Nat.reduceLeDiff, Nat.reduceLT, Nat.reduceSub, Int.reduceLE, Int.reduceNeg, Int.reduceLT, hf1]
      all_goals (refine hR _ ?_; clear hR R))
    all_goals refine qP ?_
    all_goals (
      refine qL_cons ?_
      intro R hR
      simp only [go_sem, reduceIte, reduceCtorEq, Nat.reduceAdd, Nat.reduceEqDiff, Nat.reduceLeDiff, Nat.reduceLT, Nat.reduceSub, Int.reduceLE, Int.reduceNeg, Int.reduceLT, hf1]
      all_goals (refine hR _ ?_; clear hR R))
    all_goals (
      refine qL_cons ?_
      intro R hR
      simp only [go_sem, reduceIte, reduceCtorEq, Nat.reduceAdd, Nat.reduceEqDiff, Nat.reduceLeDiff, Nat.reduceLT, Nat.reduceSub, Int.reduceLE, Int.reduceNeg, Int.reduceLT, hf1]
      try refine ⟨⟨by decide, by decide⟩, ?_⟩
      repeat refine ⟨by decide, ?_⟩
      intro c hc
      obtain rfl := Option.some.inj hc.symm
      refine ⟨rfl, ?_⟩
      all_goals (refine hR _ ?_; clear hR R))
    all_goals (
      refine qL_cons ?_
      intro R hR
      simp only [go_sem, reduceIte, reduceCtorEq, Nat.reduceAdd, Nat.reduceEqDiff, Nat.reduceLeDiff, Nat.reduceLT, Nat.reduceSub, Int.reduceLE, Int.reduceNeg, Int.reduceLT, hf1]
      all_goals (refine hR _ ?_; clear hR R))
    all_goals (
      refine qL_cons ?_
      intro R hR
      simp only [go_sem, reduceIte, reduceCtorEq, Nat.reduceAdd, Nat.reduceEqDiff, Nat.reduceLeDiff, Nat.reduceLT, Nat.reduceSub, Int.reduceLE, Int.reduceNeg, Int.reduceLT, hf1]
      first
      | refine ⟨(by first | omega | (simp only [ByteArray.size_append, size_mk, List.size_toArray, List.length_cons, List.length_nil]; omega)), ?_⟩
      | skip
      all_goals (refine hR _ ?_; clear hR R))
    all_goals refine qP ?_
    all_goals (
      refine qL_cons ?_
      intro R hR
      simp only [go_sem, reduceIte, reduceCtorEq, Nat.reduceAdd, Nat.reduceEqDiff, Nat.reduceLeDiff, Nat.reduceLT, Nat.reduceSub, Int.reduceLE, Int.reduceNeg, Int.reduceLT, hf1]
      all_goals (refine hR _ ?_; clear hR R))
    all_goals (
      refine qL_cons ?_
      intro R hR
      simp only [go_sem, reduceIte, reduceCtorEq, Nat.reduceAdd, Nat.reduceEqDiff, Nat.reduceLeDiff, Nat.reduceLT, Nat.reduceSub, Int.reduceLE, Int.reduceNeg, Int.reduceLT, hf1]
      first
      | refine ⟨(by first | omega | (simp only [ByteArray.size_append, size_mk, List.size_toArray, List.length_cons, List.length_nil]; omega)), ?_⟩
      | skip
      all_goals (refine hR _ ?_; clear hR R))
    all_goals (
      refine qL_cons ?_
      intro R hR
      simp only [go_sem, reduceIte, reduceCtorEq, Nat.reduceAdd, Nat.reduceEqDiff, Nat.reduceLeDiff, Nat.reduceLT, Nat.reduceSub, Int.reduceLE, Int.reduceNeg, Int.reduceLT, hf1]
      first
      | refine ⟨(by first | omega | (simp only [ByteArray.size_append, size_mk, List.size_toArray, List.length_cons, List.length_nil]; omega)), ?_⟩
      | skip
      all_goals (refine hR _ ?_; clear hR R))
    all_goals refine qP ?_
    all_goals (
      refine qL_cons ?_
      intro R hR
      simp only [go_sem, reduceIte, reduceCtorEq, Nat.reduceAdd, Nat.reduceEqDiff, Nat.reduceLeDiff, Nat.reduceLT, Nat.reduceSub, Int.reduceLE, Int.reduceNeg, Int.reduceLT, hf1]
      all_goals (refine hR _ ?_; clear hR R))
    all_goals (
      refine qL_cons ?_
      intro R hR
      simp only [go_sem, reduceIte, reduceCtorEq, Nat.reduceAdd, Nat.reduceEqDiff, Nat.reduceLeDiff, Nat.reduceLT, Nat.reduceSub, Int.reduceLE, Int.reduceNeg, Int.reduceLT, hf1]
      first
      | refine ⟨(by first | omega | (simp only [ByteArray.size_append, size_mk, List.size_toArray, List.length_cons, List.length_nil]; omega)), ?_⟩
      | skip
      all_goals (refine hR _ ?_; clear hR R))
    all_goals refine qP ?_
    all_goals refine qE ?_
    all_goals clear hf1 hav av)
  all_goals first
  | fail_if_success with_reducible refine atR 2 ?_
  | (
    refine rg 2 [] [some 18, some 19] 2 ?_
    all_goals iterate 2 refine qP ?_
    all_goals refine qE ?_)
  all_goals first
  | fail_if_success with_reducible refine atR 4 ?_
  | (
    refine rg 4 [] [some 27, some 26] 2 ?_
    all_goals iterate 2 refine qP ?_
    all_goals refine qE ?_)
  all_goals first
  | fail_if_success with_reducible refine atC 26 ?_
  | (
    refine cn 26 ?_ ?_ <;> intro hc26 <;> try (cases hc26; done)
    all_goals refine st ?_)
  all_goals try (exfalso; omega)
  all_goals first
  | fail_if_success with_reducible refine atR 5 ?_
  | (
    refine rg 5 [] [some 28, some 29, some 30, some 31, some 32, some 33, some 3] 7 ?_
    all_goals refine qP ?_
    all_goals (
      refine qL_cons ?_
      intro R hR
      refine sm ?_
      first
      | refine ⟨(by first | omega | (simp only [ByteArray.size_append, size_mk, List.size_toArray, List.length_cons, List.length_nil]; omega)), ?_⟩
      | skip
      all_goals (refine hR _ ?_; clear hR R))
    all_goals iterate 2 refine qP ?_
    all_goals (
      refine qL_cons ?_
      intro R hR
      refine sm ?_
      first
      | refine ⟨(by first | omega | (simp only [ByteArray.size_append, size_mk, List.size_toArray, List.length_cons, List.length_nil]; omega)), ?_⟩
      | skip
      all_goals (refine hR _ ?_; clear hR R))
    all_goals (
      refine qL_cons ?_
      intro R hR
      refine sm ?_
      first
      | refine ⟨(by first | omega | (simp only [ByteArray.size_append, size_mk, List.size_toArray, List.length_cons, List.length_nil]; omega)), ?_⟩
      | skip
      all_goals (refine hR _ ?_; clear hR R))
    all_goals refine qP ?_
    all_goals refine qE ?_)
  all_goals first
  | fail_if_success with_reducible refine atR 6 ?_
  | (
    refine rg 6 [] [some 4] 1 ?_
    all_goals refine qP ?_
    all_goals refine qE ?_)
  all_goals first
  | fail_if_success with_reducible refine atR 10 ?_
  | (
    refine rg 10 [] [some 50, some 49] 2 ?_
    all_goals iterate 2 refine qP ?_
    all_goals refine qE ?_)
  all_goals first
  | fail_if_success with_reducible refine atC 49 ?_
  | (
    refine cn 49 ?_ ?_ <;> intro hc49 <;> try (cases hc49; done)
    all_goals refine st ?_)
  all_goals try (exfalso; omega)
  all_goals first
  | fail_if_success with_reducible refine atR 11 ?_
  | (
    refine rg 11 [] [some 51, some 52, some 53, some 54, some 55, some 3] 6 ?_
    all_goals refine qP ?_
    all_goals (
      refine qL_cons ?_
      intro R hR
      refine sm ?_
      first
      | refine ⟨(by first | omega | (simp only [ByteArray.size_append, size_mk, List.size_toArray, List.length_cons, List.length_nil]; omega)), ?_⟩
      | skip
      all_goals (refine hR _ ?_; clear hR R))
    all_goals iterate 2 refine qP ?_
    all_goals (
      refine qL_cons ?_
      intro R hR
      refine sm ?_
      first
      | refine ⟨(by first | omega | (simp only [ByteArray.size_append, size_mk, List.size_toArray, List.length_cons, List.length_nil]; omega)), ?_⟩
      | skip
      all_goals (refine hR _ ?_; clear hR R))
    all_goals refine qP ?_
    all_goals refine qE ?_)
  all_goals first
  | fail_if_success with_reducible refine atR 12 ?_
  | (
    refine rg 12 [] [some 57, some 56] 2 ?_
    all_goals iterate 2 refine qP ?_
    all_goals refine qE ?_)
  all_goals first
  | fail_if_success with_reducible refine atC 56 ?_
  | (
    refine cn 56 ?_ ?_ <;> intro hc56 <;> try (cases hc56; done)
    all_goals refine st ?_)
  all_goals try (exfalso; omega)
  all_goals first
  | fail_if_success with_reducible refine atR 13 ?_
  | (
    refine rg 13 [] [some 58, some 59, some 60, some 61, some 62, some 63, some 64, some 65, some 66, some 3] 10 ?_
    all_goals refine qP ?_
    all_goals (
      refine qL_cons ?_
      intro R hR
      refine sm ?_
      first
      | refine ⟨(by first | omega | (simp only [ByteArray.size_append, size_mk, List.size_toArray, List.length_cons, List.length_nil]; omega)), ?_⟩
      | skip
      all_goals (refine hR _ ?_; clear hR R))
    all_goals iterate 2 refine qP ?_
    all_goals (
      refine qL_cons ?_
      intro R hR
      refine sm ?_
      first
      | refine ⟨(by first | omega | (simp only [ByteArray.size_append, size_mk, List.size_toArray, List.length_cons, List.length_nil]; omega)), ?_⟩
      | skip
      all_goals (refine hR _ ?_; clear hR R))
    all_goals (
      refine qL_cons ?_
      intro R hR
      refine sm ?_
      first
      | refine ⟨(by first | omega | (simp only [ByteArray.size_append, size_mk, List.size_toArray, List.length_cons, List.length_nil]; omega)), ?_⟩
      | skip
      all_goals (refine hR _ ?_; clear hR R))
    all_goals iterate 2 refine qP ?_
    all_goals (
      refine qL_cons ?_
      intro R hR
      refine sm ?_
      first
      | refine ⟨(by first | omega | (simp only [ByteArray.size_append, size_mk, List.size_toArray, List.length_cons, List.length_nil]; omega)), ?_⟩
      | skip
      all_goals (refine hR _ ?_; clear hR R))
    all_goals refine qP ?_
    all_goals refine qE ?_)
  all_goals first
  | fail_if_success with_reducible refine atR 14 ?_
  | (
    refine rg 14 [] [some 68, some 67] 2 ?_
    all_goals iterate 2 refine qP ?_
    all_goals refine qE ?_)
  all_goals first
  | fail_if_success with_reducible refine atC 67 ?_
  | (
    refine cn 67 ?_ ?_ <;> intro hc67 <;> try (cases hc67; done)
    all_goals refine st ?_)
  all_goals try (exfalso; omega)
  all_goals first
  | fail_if_success with_reducible refine atR 15 ?_
  | (
    refine rg 15 [] [some 69, some 67] 2 ?_
    all_goals iterate 2 refine qP ?_
    all_goals refine qE ?_)
  all_goals first
  | fail_if_success with_reducible refine atC 67 ?_
  | (
    refine cn 67 ?_ ?_ <;> intro hc67 <;> try (cases hc67; done)
    all_goals refine st ?_)
  all_goals try (exfalso; omega)
  all_goals first
  | fail_if_success with_reducible refine atR 16 ?_
  | (
    refine rg 16 [] [some 70, some 71, some 72, some 73, some 74, some 3] 6 ?_
    all_goals refine qP ?_
    all_goals (
      refine qL_cons ?_
      intro R hR
      refine sm ?_
      first
      | refine ⟨(by first | omega | (simp only [ByteArray.size_append, size_mk, List.size_toArray, List.length_cons, List.length_nil]; omega)), ?_⟩
      | skip
      all_goals (refine hR _ ?_; clear hR R))
    all_goals iterate 2 refine qP ?_
    all_goals (
      refine qL_cons ?_
      intro R hR
      refine sm ?_
      first
      | refine ⟨(by first | omega | (simp only [ByteArray.size_append, size_mk, List.size_toArray, List.length_cons, List.length_nil]; omega)), ?_⟩
      | skip
      all_goals (refine hR _ ?_; clear hR R))
    all_goals refine qP ?_
    all_goals refine qE ?_)
  all_goals first
  | fail_if_success with_reducible refine atR 3 ?_
  | (
    refine rg 3 [] [some 20, some 21, some 22, some 23, some 24, some 25, some 3] 7 ?_
    all_goals refine qP ?_
    all_goals (
      refine qL_cons ?_
      intro R hR
      refine sm ?_
      first
      | refine ⟨(by first | omega | (simp only [ByteArray.size_append, size_mk, List.size_toArray, List.length_cons, List.length_nil]; omega)), ?_⟩
      | skip
      all_goals (refine hR _ ?_; clear hR R))
    all_goals iterate 2 refine qP ?_
    all_goals (
      refine qL_cons ?_
      intro R hR
      refine sm ?_
      refine call_fun (l1Dec_spec at_ ha.1 ha.2) [] ?_ (.inl rfl) ?_
      · exact ⟨.inl rfl, trivial⟩
      refine sm ?_
      all_goals (refine hR _ ?_; clear hR R))
    all_goals (
      refine qL_cons ?_
      intro R hR
      refine sm ?_
      first
      | refine ⟨(by first | omega | (simp only [ByteArray.size_append, size_mk, List.size_toArray, List.length_cons, List.length_nil]; omega)), ?_⟩
      | skip
      all_goals (refine hR _ ?_; clear hR R))
    all_goals refine qP ?_
    all_goals refine qE ?_)
  all_goals first
  | fail_if_success with_reducible refine atR 17 ?_
  | (
    refine rg 17 [] [some 75, some 2] 2 ?_
    all_goals iterate 2 refine qP ?_
    all_goals refine qE ?_)
  all_goals first
  | fail_if_success with_reducible refine ret_fun (t := 2) ?_ ?_
  | (
    refine ret_fun (t := 2) ?_ (fun _ => rfl)
    first
    | exact cl
    | (
      try refine sm ?_
      all_goals (
       (congr 2; simp [putB, headB, wordB, ByteArray.append_assoc]; done))))

end
end Go.Proofs.YtkbnkcdaiahoeaaDoor
namespace Go.Proofs.YtkbnkcdaiahoeaaDoor
open Go Go.RowKit
set_option maxRecDepth 100000
set_option maxHeartbeats 4000000
set_option linter.unusedSimpArgs false
set_option linter.unusedVariables false
theorem tsz53 : tsz Tryd.prog 53 = some (true, 2) := by kernel_rfl
theorem tfld53 : tfld Tryd.prog 53 = some [(0, 9), (1, 9)] := by kernel_rfl
theorem tel22 : telem Tryd.prog 22 = some (53, 2, 32) := by kernel_rfl
deriving instance DecidableEq for Ow
abbrev owsX := owX
attribute [local go_sem] List.size_toArray Int.toNat_zero Nat.sub_zero size_mk top_val eq_self datL X.dat u8min u8max i64min i64max stepT gdO aop ev lit litOk putF fzX_false putO upd app List.contains_nil List.elem_nil aBin aInt aStr aBool aLen lenTy aBuiltin aLoad aTake aTakeX aStore splice aSlice aBd look_cons look_nil lookC_cons lookC_nil by_s by_C start_s start_C X.cells X.cell List.all_cons List.all_nil Bool.and_self Bool.not_true Bool.not_false false_implies true_implies forall_const and_true true_and and_self implies_true not_false_eq_true Nat.zero_add Nat.add_zero List.getD_cons_zero List.getD_cons_succ List.map_cons List.map_nil Option.bind_some Option.map_some Option.map_none List.getElem?_cons_zero List.getElem?_cons_succ List.length_cons List.length_nil List.drop_zero List.drop_succ_cons List.take_succ_cons List.take_zero List.cons_append List.nil_append List.append_nil D.of List.length_map all_get_map Option.isSome_some and_false false_and Nat.lt_add_one Nat.zero_lt_succ decide_true decide_false aPart aSl2 Nat.lt_irrefl fzX litEs List.contains_cons List.elem_cons Bool.true_or Bool.or_true Bool.false_or Bool.or_false beq_self_eq_true
theorem cells_toS (ss : List ByteArray) (b : Bool) : (toS ss b).cells = [toS ss b] := by unfold toS; split <;> rfl
theorem cell_toS (ss : List ByteArray) (b : Bool) : (toS ss b).cell = true := by unfold toS; split <;> rfl
theorem cells_toSm (ss : List ByteArray) (b : Bool) : X.cells.match_1 (fun _ => List X) (toS ss b) (fun cs => cs) (fun x => [x]) = [toS ss b] := cells_toS ss b
theorem cell_toSm (ss : List ByteArray) (b : Bool) : X.cell.match_1 (fun _ => Bool) (toS ss b) (fun _ => true) (fun _ => true) (fun _ _ => true) (fun _ _ _ _ => true) (fun _ _ _ _ => true) (fun _ => true) (fun _ _ => true) (fun _ => false) = true := cell_toS ss b
theorem on_toS (V : Nat → Bool) (ss : List ByteArray) (b : Bool) : (toS ss b).on V = true := by unfold toS; split <;> rfl
def toSD (ss : List ByteArray) (b : Bool) : D := if b && decide (ss.length = 0) then .sl [] else toD ss
theorem dat_toS (ss : List ByteArray) (b : Bool) : (toS ss b).dat = some (toSD ss b) := by unfold toS toSD; split <;> rfl
theorem dat_toSm (ss : List ByteArray) (b : Bool) : X.dat.match_1 (fun _ => Option D) (toS ss b) (fun x => some x) (fun _ => some (D.sl [])) (fun _ => none) = some (toSD ss b) := dat_toS ss b
theorem toSD_false (ss : List ByteArray) : toSD ss false = toD ss := rfl
theorem toSD_bare (ss : List ByteArray) (b : Bool) : (toSD ss b).bare = strs ss := by
  have h := toS_bare ss b
  unfold toSD
  unfold toS at h
  split
  · rename_i hh
    have : ss = [] := by simp at hh; exact hh.2
    subst this; rfl
  · rename_i hh
    rw [if_neg hh] at h
    have h : X.d (D.bare (toD ss)) = .d (strs ss) := h
    exact X.d.inj h
theorem bareLL_app : ∀ a b : List (List D), D.bareLL (a ++ b) = D.bareLL a ++ D.bareLL b
  | [], b => rfl
  | x :: a, b => by simp [D.bareLL, bareLL_app a b]
theorem spOf_bare {n : Nat} {es es2 : List (List D)} (h : n = es.length) : (spOf n (es ++ es2)).bare = .sl (D.bareLL es) := by
  subst h
  unfold spOf
  split
  · rename_i hh
    have : es2 = [] := by
      apply List.length_eq_zero_iff.1
      simpa using hh
    subst this
    simp [D.bare]
  · simp only [D.bare, bareLL_app]
    rw [List.take_left' (by rw [bareLL_len])]
def szOw (v : Ow) (left : Int) : Int :=
  let a0 := left - v.path.size
  if a0 < 0 then -1 else
  let a1 := a0 - v.who.size
  if a1 < 0 then -1 else
  a1
theorem szOw_le {v : Ow} {left : Int} (h : 0 ≤ left) : -1 ≤ szOw v left ∧ szOw v left ≤ left := by
  simp only [szOw]
  split
  · omega
  split
  · omega
  constructor <;> omega
section
attribute [local go_sem] tsz9 tsz35 tfld35 tel25 toNat_cast und9 zero35 tsz53 tfld53 tel22
theorem szTOw (v : Ow) (left : Int) (hl : 0 ≤ left) (hl2 : left ≤ 1000000) : Fun Tryd.prog 29 [.ag [.d (.str v.path), .d (.str v.who)], .d (.int .i64 left)] (.d (.int .i64 (szOw v left))) := by
  refine Fun.of ?_ rfl rfl
  refine Spec.of (fn := Tryd.f29) Tryd.func29 rfl (by kernel_rfl) (rs := [.tmp 4]) rfl 1 (by simp [Tryd.f29]) rfl (by simp) ?_
  intro hreal
  rintro ⟨P, T, L0, w0, ι0, C0, U0⟩ hP hT hU
  subst hP hT
  refine st ?_
  have hpath : v.path.size ≤ 9223372036854775807 := D.real_str (X.real_d (X.real_ag (hreal (.ag [.d (.str v.path), .d (.str v.who)]) (by simp)) (.d (.str v.path)) (by simp)))
  have hwho : v.who.size ≤ 9223372036854775807 := D.real_str (X.real_d (X.real_ag (hreal (.ag [.d (.str v.path), .d (.str v.who)]) (by simp)) (.d (.str v.who)) (by simp)))
  all_goals first
  | fail_if_success with_reducible refine atR 0 ?_
  | (
    refine rg 0 [] [some 2, some 4] 2 ?_
    all_goals iterate 2 refine qP ?_
    all_goals refine qE ?_)
  all_goals first
  | fail_if_success with_reducible refine atR 1 ?_
  | (
    refine rg 1 [] [some 5, some 6, some 7, some 8, some 9, some 1] 6 ?_
    all_goals iterate 4 refine qP ?_
    all_goals (
      refine qL_cons ?_
      intro R hR
      refine sm ?_
      rw [wrap64 (by omega) (by omega)]
      all_goals (refine hR _ ?_; clear hR R))
    all_goals refine qP ?_
    all_goals refine qE ?_)
  all_goals first
  | fail_if_success with_reducible refine atR 2 ?_
  | (
    refine rg 2 [] [some 10, some 11] 2 ?_
    all_goals iterate 2 refine qP ?_
    all_goals refine qE ?_)
  all_goals first
  | fail_if_success with_reducible refine atC 11 ?_
  | (
    refine cn 11 ?_ ?_ <;> intro hc11 <;> try (cases hc11; done)
    all_goals refine st ?_)
  all_goals first
  | fail_if_success with_reducible refine atR 3 ?_
  | (
    refine rg 3 [] [some 4] 1 ?_
    all_goals refine qP ?_
    all_goals refine qE ?_)
  all_goals first
  | fail_if_success with_reducible refine atR 4 ?_
  | (
    refine rg 4 [] [some 12, some 13, some 14, some 15, some 16, some 1] 6 ?_
    all_goals iterate 4 refine qP ?_
    all_goals (
      refine qL_cons ?_
      intro R hR
      refine sm ?_
      rw [wrap64 (by omega) (by omega)]
      all_goals (refine hR _ ?_; clear hR R))
    all_goals refine qP ?_
    all_goals refine qE ?_)
  all_goals first
  | fail_if_success with_reducible refine atR 5 ?_
  | (
    refine rg 5 [] [some 17, some 18] 2 ?_
    all_goals iterate 2 refine qP ?_
    all_goals refine qE ?_)
  all_goals first
  | fail_if_success with_reducible refine atC 18 ?_
  | (
    refine cn 18 ?_ ?_ <;> intro hc18 <;> try (cases hc18; done)
    all_goals refine st ?_)
  all_goals first
  | fail_if_success with_reducible refine atR 6 ?_
  | (
    refine rg 6 [] [some 4] 1 ?_
    all_goals refine qP ?_
    all_goals refine qE ?_)
  all_goals first
  | fail_if_success with_reducible refine atR 7 ?_
  | (
    refine rg 7 [] [some 19, some 4] 2 ?_
    all_goals iterate 2 refine qP ?_
    all_goals refine qE ?_)
  all_goals first
  | fail_if_success with_reducible refine ret_fun (t := 4) ?_ ?_
  | (
    refine ret_fun (t := 4) ?_ (fun _ => rfl)
    first
    | exact cl
    | (
      try refine sm ?_
      all_goals (
       congr 2; simp only [szOw]; repeat (first | rfl | rw [if_pos (by omega)] | rw [if_neg (by omega)]))))

def szOwGo : List Ow → Int → Int
  | [], x => x
  | s :: r, x => if szOw s x < 0 then -1 else szOwGo r (szOw s x)
def szOws (l : List Ow) (left : Int) : Int := if left - l.length < 0 then -1 else szOwGo l (left - l.length)
theorem szOwGo_le : ∀ (l : List Ow) (x : Int), 0 ≤ x → -1 ≤ szOwGo l x ∧ szOwGo l x ≤ x
  | [], x, h => by simp [szOwGo]; omega
  | s :: r, x, h => by
    simp only [szOwGo]
    have := szOw_le (v := s) h
    split
    · omega
    · have := szOwGo_le r (szOw s x) (by omega); omega
theorem szOws_le {l : List Ow} {left : Int} (h : 0 ≤ left) : -1 ≤ szOws l left ∧ szOws l left ≤ left := by
  unfold szOws
  split
  · omega
  · have := szOwGo_le l (left - l.length) (by omega); omega
theorem szOws_len {l : List Ow} {left : Int} (h0 : 0 ≤ left) (h : 0 ≤ szOws l left) : (l.length : Int) ≤ left := by
  unfold szOws at h
  split at h
  · omega
  · omega
theorem szOwGo_mem : ∀ {l : List Ow} {x : Int}, 0 ≤ x → 0 ≤ szOwGo l x → ∀ v ∈ l, ∃ y, 0 ≤ y ∧ y ≤ x ∧ 0 ≤ szOw v y
  | s :: r, x, h0, h, v, hv => by
    simp only [szOwGo] at h
    have hle := szOw_le (v := s) h0
    split at h
    · omega
    · rename_i hn
      rcases List.mem_cons.1 hv with rfl | hv
      · exact ⟨x, h0, by omega, by omega⟩
      · obtain ⟨y, h1, h2, h3⟩ := szOwGo_mem (by omega) h v hv
        exact ⟨y, h1, by omega, h3⟩
theorem szOws_mem {l : List Ow} {left : Int} (h0 : 0 ≤ left) (h : 0 ≤ szOws l left) : ∀ v ∈ l, ∃ y, 0 ≤ y ∧ y ≤ left ∧ 0 ≤ szOw v y := by
  unfold szOws at h
  split at h
  · omega
  · intro v hv
    obtain ⟨y, h1, h2, h3⟩ := szOwGo_mem (by omega) h v hv
    exact ⟨y, h1, by omega, h3⟩
theorem szOwGo_drop {l : List Ow} {i : Nat} {s : Ow} (h : l[i]? = some s) (x : Int) : szOwGo (l.drop i) x = if szOw s x < 0 then -1 else szOwGo (l.drop (i + 1)) (szOw s x) := by
  obtain ⟨hi, rfl⟩ := List.getElem?_eq_some_iff.1 h
  rw [List.drop_eq_getElem_cons hi]
  rfl
end
section
attribute [local go_sem] tsz9 tsz35 tfld35 tel25 toNat_cast und9 zero35 tsz53 tfld53 tel22 owX owX
theorem szTOws (ss : List Ow) (left : Int) (hl : 0 ≤ left) (hl2 : left ≤ 1000000) : Fun Tryd.prog 9 [.d (.of owX ss), .d (.int .i64 left)] (.d (.int .i64 (szOws ss left))) := by
  refine Fun.of ?_ rfl rfl
  refine Spec.of (fn := Tryd.f9) Tryd.func9 rfl (by kernel_rfl) (rs := [.tmp 4]) rfl 1 (by simp [Tryd.f9]) rfl (by simp) ?_
  intro hreal
  rintro ⟨P, T, L0, w0, ι0, C0, U0⟩ hP hT hU
  subst hP hT
  refine st ?_
  have hlen : ss.length ≤ 9223372036854775807 := by simpa using D.real_len (X.real_d (hreal (.d (.of owX ss)) (by simp)) : D.real (.sl (ss.map owX)))
  all_goals first
  | fail_if_success with_reducible refine atR 0 ?_
  | (
    refine rg 0 [] [some 4] 1 ?_
    all_goals refine qP ?_
    all_goals refine qE ?_)
  all_goals first
  | fail_if_success with_reducible refine atR 1 ?_
  | (
    refine rg 1 [] [some 6, some 7, some 8, some 9, some 1] 5 ?_
    all_goals iterate 3 refine qP ?_
    all_goals (
      refine qL_cons ?_
      intro R hR
      refine sm ?_
      rw [wrap64 (by omega) (by omega)]
      all_goals (refine hR _ ?_; clear hR R))
    all_goals refine qP ?_
    all_goals refine qE ?_)
  all_goals first
  | fail_if_success with_reducible refine atR 2 ?_
  | (
    refine rg 2 [] [some 10, some 11] 2 ?_
    all_goals iterate 2 refine qP ?_
    all_goals refine qE ?_)
  all_goals first
  | fail_if_success with_reducible refine atC 11 ?_
  | (
    refine cn 11 ?_ ?_ <;> intro hc11 <;> try (cases hc11; done)
    all_goals refine st ?_)
  all_goals first
  | fail_if_success with_reducible refine atR 3 ?_
  | (
    refine rg 3 [] [some 4] 1 ?_
    all_goals refine qP ?_
    all_goals refine qE ?_)
  all_goals first
  | fail_if_success with_reducible refine atR 4 ?_
  | (
    refine rg 4 [] [some 5] 1 ?_
    all_goals refine qP ?_
    all_goals refine qE ?_)
  all_goals first
  | fail_if_success with_reducible refine AW.rounds (α := (Nat × Int)) ?_ ?_ ?_ ?_ ?_ ?_ ?_ ?_
  | (
    refine AW.rounds (α := (Nat × Int)) (fun p => p.1 ≤ ss.length ∧ 0 ≤ p.2 ∧ p.2 ≤ 1000000 ∧ szOws ss left = szOwGo (ss.drop p.1) p.2) (fun p => St.by [(0, .d (.of owX ss)), (1, .d (.int .i64 p.2)), (5, .d (.int .i64 p.1))] []) (fun p => ss.length - p.1) 1 (0, left - ss.length) ?_ ?_ ?_
    · refine ⟨by simp, by simp only; omega, by simp only; omega, ?_⟩
      simp only [List.drop_zero, szOws]
      rw [if_neg (by omega)]
    · refine Vw.to [] _ _ (vU hU) ?_ ?_ (by simp [tauL])
      · refine vd (vd (vw_d ?_ (trivial)))
        · first
          | exact cl2
          | (
            refine sm2 ?_
            all_goals (
             rfl))
      · trivial
    · intro p hJ
      refine st ?_
      obtain ⟨hJ1, hJ2, hJ3, hJ4⟩ := hJ
      all_goals first
      | fail_if_success with_reducible refine atR 5 ?_
      | (
        refine rg 5 [] [some 12, some 13, some 14, some 15] 4 ?_
        all_goals iterate 4 refine qP ?_
        all_goals refine qE ?_)
      all_goals first
      | fail_if_success with_reducible refine atC 15 ?_
      | (
        refine cn 15 ?_ ?_ <;> intro hc15 <;> try (cases hc15; done)
        all_goals refine st ?_)
      all_goals first
      | fail_if_success with_reducible refine atR 7 ?_
      | (
        refine rg 7 [] [some 18, some 19, some 20, some 21, some 22, some 23, some 1] 7 ?_
        all_goals iterate 2 refine qP ?_
        all_goals (
          refine qL_cons ?_
          intro R hR
          refine sm ?_
          refine ⟨⟨by omega, by omega⟩, ?_⟩
          intro x3 hx3
          have q3 := szOw_le (v := x3) (left := p.2) (by omega)
          all_goals (refine hR _ ?_; clear hR R))
        all_goals iterate 2 refine qP ?_
        all_goals (
          refine qL_cons ?_
          intro R hR
          refine sm ?_
          refine call_fun (szTOw x3 p.2 (by omega) (by omega)) [] ?_ (.inl rfl) ?_
          · exact ⟨.inl rfl, ⟨.inl rfl, trivial⟩⟩
          refine sm ?_
          all_goals (refine hR _ ?_; clear hR R))
        all_goals refine qP ?_
        all_goals refine qE ?_)
      all_goals first
      | fail_if_success with_reducible refine atR 8 ?_
      | (
        refine rg 8 [] [some 24, some 25] 2 ?_
        all_goals iterate 2 refine qP ?_
        all_goals refine qE ?_)
      all_goals first
      | fail_if_success with_reducible refine atC 25 ?_
      | (
        refine cn 25 ?_ ?_ <;> intro hc25 <;> try (cases hc25; done)
        all_goals refine st ?_)
      all_goals first
      | fail_if_success with_reducible refine atR 9 ?_
      | (
        refine rg 9 [] [some 4] 1 ?_
        all_goals refine qP ?_
        all_goals refine qE ?_)
      all_goals first
      | fail_if_success with_reducible refine atR 6 ?_
      | (
        refine rg 6 [] [some 16, some 17, some 5] 3 ?_
        all_goals refine qP ?_
        all_goals (
          refine qL_cons ?_
          intro R hR
          refine sm ?_
          rw [wrap64 (by omega) (by omega)]
          all_goals (refine hR _ ?_; clear hR R))
        all_goals refine qP ?_
        all_goals refine qE ?_)
      all_goals first
      | fail_if_success with_reducible refine ⟨(p.1 + 1, szOw x3 p.2), ?_, ?_, ?_⟩
      | (
        refine ⟨(p.1 + 1, szOw x3 p.2), ?_, ?_, ?_⟩
        · refine ⟨by simp only; omega, by simp only; omega, by simp only; omega, ?_⟩
          rw [hJ4, szOwGo_drop hx3, if_neg (by omega)]
        · simp only; omega
        · refine Vw.to [] _ _ (vU hU) ?_ ?_ (by simp [tauL])
          · refine vd (vd (vw_d ?_ (trivial)))
            · first
              | exact cl2
              | (
                refine sm2 ?_
                all_goals (
                 congr 1))
          · trivial)
      all_goals first
      | fail_if_success with_reducible refine atR 10 ?_
      | (
        refine rg 10 [] [some 26, some 4] 2 ?_
        all_goals iterate 2 refine qP ?_
        all_goals refine qE ?_)
      all_goals first
      | fail_if_success with_reducible refine ret_fun (t := 4) ?_ ?_
      | (
        refine ret_fun (t := 4) ?_ (fun _ => rfl)
        first
        | exact cl
        | (
          try refine sm ?_
          all_goals (
           first
             | (congr 2; done)
             | (congr 2; rw [hJ4, szOwGo_drop hx3, if_pos (by omega)]; done)
             | (congr 2; rw [hJ4, List.drop_of_length_le (by omega)]; rfl)))))
  all_goals first
  | fail_if_success with_reducible refine ret_fun (t := 4) ?_ ?_
  | (
    refine ret_fun (t := 4) ?_ (fun _ => rfl)
    first
    | exact cl
    | (
      try refine sm ?_
      all_goals (
       first
         | (congr 2; unfold szOws; rw [if_pos (by omega)]; done))))

structure OwQ where
  path : D
  who : D
def owQ (q : OwQ) : List D := [q.path, q.who]
def owT (b : Bool) (v : Ow) : OwQ := ⟨.str v.path, .str v.who⟩
def toOw (v : Ow) (b : Bool) : X := .ag [.d (.str v.path), .d (.str v.who)]
theorem on_toOw (V : Nat → Bool) (v : Ow) (b : Bool) : (toOw v b).on V = true := by simp [toOw, X.on, X.onL, on_toS]
end
section
attribute [local go_sem] tsz9 tsz35 tfld35 tel25 toNat_cast und9 zero35 tsz53 tfld53 tel22 cells_toS cell_toS dat_toS cells_toSm cell_toSm dat_toSm
theorem toTOw (v : Ow) (b : Bool)  : Fun Tryd.prog 32 [.ag [.d (.str v.path), .d (.str v.who)]] (toOw v b) := by
  refine Fun.of ?_ rfl (on_toOw _ _ _)
  refine Spec.of (fn := Tryd.f32) Tryd.func32 rfl (by kernel_rfl) (rs := [.cell 2 35]) rfl 1 (by simp [Tryd.f32]) rfl (by simp) ?_
  intro hreal
  rintro ⟨P, T, L0, w0, ι0, C0, U0⟩ hP hT hU
  subst hP hT
  refine st ?_
  all_goals first
  | fail_if_success with_reducible refine atR 0 ?_
  | (
    refine rg 0 [] [some 1, some 2] 2 ?_
    all_goals iterate 2 refine qP ?_
    all_goals refine qE ?_)
  all_goals first
  | fail_if_success with_reducible refine atR 1 ?_
  | (
    refine rg 1 [] [some 3] 1 ?_
    all_goals refine qP ?_
    all_goals refine qE ?_)
  all_goals first
  | fail_if_success with_reducible refine atR 2 ?_
  | (
    refine rg 2 [] [some 4, some 5, some 6, none] 4 ?_
    all_goals iterate 4 refine qP ?_
    all_goals refine qE ?_)
  all_goals first
  | fail_if_success with_reducible refine atR 3 ?_
  | (
    refine rg 3 [] [some 7, some 8, some 9, none] 4 ?_
    all_goals iterate 4 refine qP ?_
    all_goals refine qE ?_)
  all_goals first
  | fail_if_success with_reducible refine atR 4 ?_
  | (
    refine rg 4 [] [some 10, none] 2 ?_
    all_goals iterate 2 refine qP ?_
    all_goals refine qE ?_)
  all_goals (
    refine ret_cell (a := 2) (t := 35) ?_ (fun V => on_toOw _ _ _)
    simp only [go_sem, reduceIte, reduceCtorEq, Nat.reduceAdd, Nat.reduceEqDiff, Nat.reduceLeDiff, Nat.reduceLT, Nat.reduceSub, Int.reduceLE, Int.reduceNeg, Int.reduceLT, toOw])

def fillOw : Ow := ⟨spare, spare⟩
end
section
attribute [local go_sem] tsz9 tsz35 tfld35 tel25 toNat_cast und9 zero35 tsz53 tfld53 tel22 sS iz9 litEs Nat.reduceMul
theorem fillTOw  : Fun Tryd.prog 33 [] (.ag [.d (.str fillOw.path), .d (.str fillOw.who)]) := by
  refine Fun.of ?_ rfl rfl
  refine Spec.of (fn := Tryd.f33) Tryd.func33 rfl (by kernel_rfl) (rs := [.cell 0 35]) rfl 1 (by simp [Tryd.f33]) rfl (by simp) ?_
  intro hreal
  rintro ⟨P, T, L0, w0, ι0, C0, U0⟩ hP hT hU
  subst hP hT
  refine st ?_
  all_goals first
  | fail_if_success with_reducible refine atR 0 ?_
  | (
    refine rg 0 [] [some 0] 1 ?_
    all_goals refine qP ?_
    all_goals refine qE ?_)
  all_goals first
  | fail_if_success with_reducible refine atR 1 ?_
  | (
    refine rg 1 [] [some 1, none] 2 ?_
    all_goals iterate 2 refine qP ?_
    all_goals refine qE ?_)
  all_goals (
    refine ret_cell (a := 0) (t := 35) ?_ (fun V => rfl)
    refine sm ?_
    rfl)

def zeroOwQ : OwQ := ⟨.str ByteArray.empty, .str ByteArray.empty⟩
theorem zdOw : (tzero Tryd.prog 35).bind datL = some (owQ zeroOwQ) := by kernel_rfl
def fillOwQ : OwQ := ⟨.str fillOw.path, .str fillOw.who⟩
def owL (ss : List Ow) (b : Bool) : List OwQ := ss.map (owT b) ++ List.replicate (room ss.length) fillOwQ
def toOws (ss : List Ow) (b : Bool) : X := if b && decide (ss.length = 0) then .nil else .d (spOf ss.length ((owL ss b).map owQ))
theorem on_toOws (V : Nat → Bool) (ss : List Ow) (b : Bool) : (toOws ss b).on V = true := by unfold toOws; split <;> rfl
theorem owL_end {ss : List Ow} {b : Bool} {l : List OwQ} (h1 : l.length = ss.length + room ss.length) (h2 : ∀ j v, j < ss.length → ss[j]? = some v → l[j]? = some (owT b v)) (h3 : ∀ j, ss.length ≤ j → j < ss.length + room ss.length → l[j]? = some fillOwQ) : l = owL ss b := by
  unfold owL
  apply List.ext_getElem?
  intro j
  by_cases hj : j < ss.length
  · rw [h2 j ss[j] hj (by simp), List.getElem?_append_left (by simpa using hj)]
    simp [hj]
  · by_cases hj2 : j < ss.length + room ss.length
    · rw [h3 j (by omega) hj2, List.getElem?_append_right (by simp; omega), List.getElem?_replicate]
      simp; omega
    · rw [List.getElem?_eq_none (by omega), List.getElem?_eq_none (by simp; omega)]
end
section
attribute [local go_sem] tsz9 tsz35 tfld35 tel25 toNat_cast und9 zero35 tsz53 tfld53 tel22 owX cells_toS cell_toS dat_toS cells_toSm cell_toSm dat_toSm zdOw owQ addNat toOw
theorem toTOws (ss : List Ow) (bare : Bool) (hss : ss.length ≤ 1000000) (hel : ∀ v ∈ ss, True) : Fun Tryd.prog 11 [.d (.of owX ss), .d (.bool bare)] (toOws ss bare) := by
  refine Fun.of ?_ rfl (on_toOws _ _ _)
  refine Spec.of (fn := Tryd.f11) Tryd.func11 rfl (by kernel_rfl) (rs := [.tmp 4]) rfl 1 (by simp [Tryd.f11]) rfl (by simp) ?_
  intro hreal
  rintro ⟨P, T, L0, w0, ι0, C0, U0⟩ hP hT hU
  subst hP hT
  refine st ?_
  have hroom := room_le ss.length
  have hlen : ss.length ≤ 9223372036854775807 := by omega
  all_goals first
  | fail_if_success with_reducible refine atR 0 ?_
  | (
    refine rg 0 [] [some 4] 1 ?_
    all_goals refine qP ?_
    all_goals refine qE ?_)
  all_goals first
  | fail_if_success with_reducible refine atR 1 ?_
  | (
    refine rg 1 [] [some 8, some 9, some 10, some 11, some 12, some 13] 6 ?_
    all_goals iterate 2 refine qP ?_
    all_goals first | refine qU 9 ?_ | (refine qS 9 ?_ ?_ <;> intro hg1_1 <;> try (cases hg1_1; done))
    all_goals iterate 4 refine qP ?_
    all_goals refine qE ?_)
  all_goals first
  | fail_if_success with_reducible refine atC 13 ?_
  | (
    refine cn 13 ?_ ?_ <;> intro hc13 <;> try (cases hc13; done)
    all_goals refine st ?_)
  all_goals first
  | fail_if_success with_reducible refine atR 2 ?_
  | (
    refine rg 2 [] [some 4] 1 ?_
    all_goals refine qP ?_
    all_goals refine qE ?_)
  all_goals first
  | fail_if_success with_reducible refine atR 3 ?_
  | (
    refine rg 3 [] [some 14, some 15, some 16, some 17, some 18, some 19, some 20, some 5] 8 ?_
    all_goals iterate 4 refine qP ?_
    all_goals (
      refine qL_cons ?_
      intro R hR
      refine sm ?_
      refine call_fun (roomBehind_spec ss.length (by omega)) [] ?_ (.inl rfl) ?_
      · exact ⟨.inl rfl, trivial⟩
      refine sm ?_
      all_goals (refine hR _ ?_; clear hR R))
    all_goals (
      refine qL_cons ?_
      intro R hR
      refine sm ?_
      rw [wrap64 (by omega) (by omega)]
      all_goals (refine hR _ ?_; clear hR R))
    all_goals (
      refine qL_cons ?_
      intro R hR
      refine sm ?_
      refine ⟨⟨by omega, by omega, by omega, by omega⟩, ?_⟩
      all_goals (refine hR _ ?_; clear hR R))
    all_goals refine qP ?_
    all_goals refine qE ?_)
  all_goals first
  | fail_if_success with_reducible refine atR 4 ?_
  | (
    refine rg 4 [] [some 6] 1 ?_
    all_goals refine qP ?_
    all_goals refine qE ?_)
  all_goals first
  | fail_if_success with_reducible refine AW.rounds (α := (Nat × List OwQ)) ?_ ?_ ?_ ?_ ?_ ?_ ?_ ?_
  | (
    refine AW.rounds (α := (Nat × List OwQ)) (fun p => p.1 ≤ ss.length ∧ p.2.length = ss.length + room ss.length ∧ ∀ j v, j < p.1 → ss[j]? = some v → p.2[j]? = some (owT bare v)) (fun p => St.by [(0, .d (.of owX ss)), (1, .d (.bool bare)), (5, .vec 14 2 0 (ss.length + room ss.length)), (6, .d (.int .i64 p.1))] [(14, .vec 35 2 (p.2.map owQ))]) (fun p => ss.length - p.1) 15 (0, List.replicate (ss.length + room ss.length) zeroOwQ) ?_ ?_ ?_
    · refine ⟨by simp, by simp, fun j v hj => ?_⟩
      simp only at hj; omega
    · refine Vw.to [] _ _ (vU hU) ?_ ?_ (by simp [tauL])
      · refine vd (vd (vx (vw_d ?_ (trivial))))
        · first
          | exact cl2
          | (
            refine sm2 ?_
            all_goals (
             rfl))
      · refine ⟨⟨by simp, rfl, ?_⟩, trivial⟩
        refine sm3 ?_
        simp [owQ, zeroOwQ]
    · intro p hJ
      refine st ?_
      obtain ⟨hJ1, hJ2, hJ3⟩ := hJ
      all_goals first
      | fail_if_success with_reducible refine atR 5 ?_
      | (
        refine rg 5 [] [some 21, some 22, some 23, some 24] 4 ?_
        all_goals iterate 4 refine qP ?_
        all_goals refine qE ?_)
      all_goals first
      | fail_if_success with_reducible refine atC 24 ?_
      | (
        refine cn 24 ?_ ?_ <;> intro hc24 <;> try (cases hc24; done)
        all_goals refine st ?_)
      all_goals first
      | fail_if_success with_reducible refine atR 7 ?_
      | (
        refine rg 7 [] [some 27, some 28, some 29, some 30, some 31, some 32, some 33, some 34, none] 9 ?_
        all_goals iterate 4 refine qP ?_
        all_goals (
          refine qL_cons ?_
          intro R hR
          refine sm ?_
          refine ⟨⟨by omega, by omega⟩, ?_⟩
          intro x4 hx4
          try simp only [go_sem, reduceIte, reduceCtorEq, Nat.reduceAdd, Nat.reduceEqDiff, Nat.reduceLeDiff, Nat.reduceLT, Nat.reduceSub, Int.reduceLE, Int.reduceNeg, Int.reduceLT, owX]
          all_goals (refine hR _ ?_; clear hR R))
        all_goals refine qP ?_
        all_goals (
          refine qL_cons ?_
          intro R hR
          refine sm ?_
          refine call_fun (toTOw x4 bare) [] ?_ (.inl rfl) ?_
          · exact ⟨.inl rfl, trivial⟩
          refine sm ?_
          all_goals (refine hR _ ?_; clear hR R))
        all_goals (
          refine qL_cons ?_
          intro R hR
          refine sm ?_
          refine ⟨⟨by omega, by omega⟩, ?_⟩
          all_goals (refine hR _ ?_; clear hR R))
        all_goals (
          refine qL_cons ?_
          intro R hR
          refine sm ?_
          refine ⟨by omega, ?_⟩
          intro x7 hx7
          all_goals (refine hR _ ?_; clear hR R))
        all_goals refine qE ?_)
      all_goals first
      | fail_if_success with_reducible refine atR 6 ?_
      | (
        refine rg 6 [] [some 25, some 26, some 6] 3 ?_
        all_goals refine qP ?_
        all_goals (
          refine qL_cons ?_
          intro R hR
          refine sm ?_
          rw [wrap64 (by omega) (by omega)]
          all_goals (refine hR _ ?_; clear hR R))
        all_goals refine qP ?_
        all_goals refine qE ?_)
      all_goals first
      | fail_if_success with_reducible refine ⟨(p.1 + 1, p.2.set p.1 (owT bare x4)), ?_, ?_, ?_⟩
      | (
        refine ⟨(p.1 + 1, p.2.set p.1 (owT bare x4)), ?_, ?_, ?_⟩
        · refine ⟨by simp only; omega, by simp only [List.length_set]; omega, fun j v hj hv => ?_⟩
          simp only at hj ⊢
          by_cases hjp : j = p.1
          · subst hjp; rw [List.getElem?_set_self (by omega)]; simp_all
          · rw [List.getElem?_set_ne (Ne.symm hjp)]; exact hJ3 j v (by omega) hv
        · simp only; omega
        · refine Vw.to [] _ _ (vU hU) ?_ ?_ (by simp [tauL])
          · refine vd (vd (vx (vw_d ?_ (trivial))))
            · first
              | exact cl2
              | (
                refine sm2 ?_
                all_goals (
                 congr 1))
          · refine ⟨⟨by simp, rfl, ?_⟩, trivial⟩
            refine sm3 ?_
            simp [List.map_set, owQ, owT])
      all_goals first
      | fail_if_success with_reducible refine atR 8 ?_
      | (
        refine rg 8 [] [some 35, some 36, some 7] 3 ?_
        all_goals iterate 3 refine qP ?_
        all_goals refine qE ?_)
      all_goals first
      | fail_if_success with_reducible refine AW.rounds (α := (Nat × List OwQ)) ?_ ?_ ?_ ?_ ?_ ?_ ?_ ?_
      | (
        refine AW.rounds (α := (Nat × List OwQ)) (fun q => ss.length ≤ q.1 ∧ q.1 ≤ ss.length + room ss.length ∧ q.2.length = ss.length + room ss.length ∧ (∀ j v, j < ss.length → ss[j]? = some v → q.2[j]? = some (owT bare v)) ∧ (∀ j, ss.length ≤ j → j < q.1 → q.2[j]? = some fillOwQ)) (fun q => St.by [(0, .d (.of owX ss)), (5, .vec 14 2 0 (ss.length + room ss.length)), (7, .d (.int .i64 q.1))] [(14, .vec 35 2 (q.2.map owQ))]) (fun q => ss.length + room ss.length - q.1) 15 (ss.length, p.2) ?_ ?_ ?_
        · refine ⟨by simp, by simp, by simp only; omega, fun j v hj hv => hJ3 j v (by omega) hv, fun j h1 h2 => ?_⟩
          simp only at h2; omega
        · refine Vw.to [] _ _ (vU hU) ?_ ?_ (by simp [tauL])
          · refine vd (vx (vd (trivial)))
          · refine ⟨⟨by simp, rfl, ?_⟩, trivial⟩
            exact cl4
        · intro q hJ
          refine st ?_
          obtain ⟨hK1, hK2, hK3, hK4, hK5⟩ := hJ
          all_goals first
          | fail_if_success with_reducible refine atR 9 ?_
          | (
            refine rg 9 [] [some 37, some 38, some 39, some 40] 4 ?_
            all_goals iterate 2 refine qP ?_
            all_goals (
              refine qL_cons ?_
              intro R hR
              refine sm ?_
              refine ⟨by omega, ?_⟩
              all_goals (refine hR _ ?_; clear hR R))
            all_goals refine qP ?_
            all_goals refine qE ?_)
          all_goals first
          | fail_if_success with_reducible refine atC 40 ?_
          | (
            refine cn 40 ?_ ?_ <;> intro hc40 <;> try (cases hc40; done)
            all_goals refine st ?_)
          all_goals first
          | fail_if_success with_reducible refine atR 11 ?_
          | (
            refine rg 11 [] [some 43, some 44, some 45, some 46, none] 5 ?_
            all_goals iterate 2 refine qP ?_
            all_goals (
              refine qL_cons ?_
              intro R hR
              refine sm ?_
              refine call_fun (fillTOw) [] ?_ (.inl rfl) ?_
              · exact trivial
              refine sm ?_
              all_goals (refine hR _ ?_; clear hR R))
            all_goals (
              refine qL_cons ?_
              intro R hR
              refine sm ?_
              refine ⟨⟨by omega, by omega⟩, ?_⟩
              all_goals (refine hR _ ?_; clear hR R))
            all_goals (
              refine qL_cons ?_
              intro R hR
              refine sm ?_
              refine ⟨by omega, ?_⟩
              intro x7 hx7
              all_goals (refine hR _ ?_; clear hR R))
            all_goals refine qE ?_)
          all_goals first
          | fail_if_success with_reducible refine atR 10 ?_
          | (
            refine rg 10 [] [some 41, some 42, some 7] 3 ?_
            all_goals refine qP ?_
            all_goals (
              refine qL_cons ?_
              intro R hR
              refine sm ?_
              rw [wrap64 (by omega) (by omega)]
              all_goals (refine hR _ ?_; clear hR R))
            all_goals refine qP ?_
            all_goals refine qE ?_)
          all_goals first
          | fail_if_success with_reducible refine ⟨(q.1 + 1, q.2.set q.1 fillOwQ), ?_, ?_, ?_⟩
          | (
            refine ⟨(q.1 + 1, q.2.set q.1 fillOwQ), ?_, ?_, ?_⟩
            · refine ⟨by simp only; omega, by simp only; omega, by simp only [List.length_set]; omega, fun j v hj hv => ?_, fun j h1 h2 => ?_⟩
              · simp only at hj ⊢
                rw [List.getElem?_set_ne (by omega)]; exact hK4 j v hj hv
              · simp only at h1 h2 ⊢
                by_cases hjp : j = q.1
                · subst hjp; rw [List.getElem?_set_self (by omega)]
                · rw [List.getElem?_set_ne (Ne.symm hjp)]; exact hK5 j h1 (by omega)
            · simp only; omega
            · refine Vw.to [] _ _ (vU hU) ?_ ?_ (by simp [tauL])
              · refine vd (vx (vw_d ?_ (trivial)))
                · first
                  | exact cl2
                  | (
                    refine sm2 ?_
                    all_goals (
                     congr 1))
              · refine ⟨⟨by simp, rfl, ?_⟩, trivial⟩
                refine sm3 ?_
                simp [List.map_set, owQ, fillOwQ, fillOw, strs, D.of])
          all_goals first
          | fail_if_success with_reducible refine atR 12 ?_
          | (
            refine rg 12 [] [some 47, some 48, some 49, some 50, some 4] 5 ?_
            all_goals iterate 3 refine qP ?_
            all_goals (
              refine qL_cons ?_
              intro R hR
              refine sm ?_
              refine ⟨⟨by omega, by omega⟩, ?_⟩
              all_goals (refine hR _ ?_; clear hR R))
            all_goals refine qP ?_
            all_goals refine qE ?_)
          all_goals (
            refine ret_frz (t := 4) 14 2 (q.2.map owQ) (len := ss.length) (ty := 35) ?_ ?_ (by simp; omega) ?_
            · exact cl
            · exact cl
            · rw [owL_end (b := bare) hK3 hK4 (fun j h1 h2 => hK5 j h1 (by omega))]
              unfold toOws
              rw [if_neg (by simp_all)])))
  all_goals first
    | (
        refine ret_fun (t := 4) ?_ (on_toOws · _ _)
        refine sm ?_
        simp_all [toOws]; done)

end
section
attribute [local go_sem] tsz9 tsz35 tfld35 tel25 toNat_cast und9 zero35 tsz53 tfld53 tel22
theorem eqTOw (a b : Ow) : Fun Tryd.prog 63 [.ag [.d (.str a.path), .d (.str a.who)], .ag [.d (.str b.path), .d (.str b.who)]] (.d (.bool (decide (a = b)))) := by
  refine Fun.of ?_ rfl rfl
  refine Spec.of (fn := Tryd.f63) Tryd.func63 rfl (by kernel_rfl) (rs := [.tmp 4]) rfl 1 (by simp [Tryd.f63]) rfl (by simp) ?_
  intro hreal
  rintro ⟨P, T, L0, w0, ι0, C0, U0⟩ hP hT hU
  subst hP hT
  refine st ?_
  all_goals first
  | fail_if_success with_reducible refine atR 0 ?_
  | (
    refine rg 0 [] [some 2, some 3, some 4] 3 ?_
    all_goals iterate 3 refine qP ?_
    all_goals refine qE ?_)
  all_goals first
  | fail_if_success with_reducible refine atR 1 ?_
  | (
    refine rg 1 [] [some 5, some 6, some 7, some 8, some 9] 5 ?_
    all_goals iterate 5 refine qP ?_
    all_goals refine qE ?_)
  all_goals first
  | fail_if_success with_reducible refine atC 9 ?_
  | (
    refine cn 9 ?_ ?_ <;> intro hc9 <;> try (cases hc9; done)
    all_goals refine st ?_)
  all_goals first
  | fail_if_success with_reducible refine atR 2 ?_
  | (
    refine rg 2 [] [some 4] 1 ?_
    all_goals refine qP ?_
    all_goals refine qE ?_)
  all_goals first
  | fail_if_success with_reducible refine atR 3 ?_
  | (
    refine rg 3 [] [some 10, some 11, some 12, some 13, some 14] 5 ?_
    all_goals iterate 5 refine qP ?_
    all_goals refine qE ?_)
  all_goals first
  | fail_if_success with_reducible refine atC 14 ?_
  | (
    refine cn 14 ?_ ?_ <;> intro hc14 <;> try (cases hc14; done)
    all_goals refine st ?_)
  all_goals first
  | fail_if_success with_reducible refine atR 4 ?_
  | (
    refine rg 4 [] [some 4] 1 ?_
    all_goals refine qP ?_
    all_goals refine qE ?_)
  all_goals first
  | fail_if_success with_reducible refine atR 5 ?_
  | (
    refine rg 5 [] [some 4] 1 ?_
    all_goals refine qP ?_
    all_goals refine qE ?_)
  all_goals first
  | fail_if_success with_reducible refine ret_fun (t := 4) ?_ ?_
  | (
    refine ret_fun (t := 4) ?_ (fun _ => rfl)
    first
    | exact cl
    | (
      try refine sm ?_
      all_goals (
       (congr 2; cases a; cases b; simp_all; done))))

end
section
attribute [local go_sem] tsz9 tsz35 tfld35 tel25 toNat_cast und9 zero35 tsz53 tfld53 tel22 owX owX
theorem eqTOws (a b : List Ow) : Fun Tryd.prog 35 [.d (.of owX a), .d (.of owX b)] (.d (.bool (decide (a = b)))) := by
  refine Fun.of ?_ rfl rfl
  refine Spec.of (fn := Tryd.f35) Tryd.func35 rfl (by kernel_rfl) (rs := [.tmp 4]) rfl 1 (by simp [Tryd.f35]) rfl (by simp) ?_
  intro hreal
  rintro ⟨P, T, L0, w0, ι0, C0, U0⟩ hP hT hU
  subst hP hT
  refine st ?_
  have hla : a.length ≤ 9223372036854775807 := by simpa using D.real_len (X.real_d (hreal (.d (.of owX a)) (by simp)) : D.real (.sl (a.map owX)))
  all_goals first
  | fail_if_success with_reducible refine atR 0 ?_
  | (
    refine rg 0 [] [some 4] 1 ?_
    all_goals refine qP ?_
    all_goals refine qE ?_)
  all_goals first
  | fail_if_success with_reducible refine atR 1 ?_
  | (
    refine rg 1 [] [some 6, some 7, some 8, some 9, some 10] 5 ?_
    all_goals iterate 5 refine qP ?_
    all_goals refine qE ?_)
  all_goals first
  | fail_if_success with_reducible refine atC 10 ?_
  | (
    refine cn 10 ?_ ?_ <;> intro hc10 <;> try (cases hc10; done)
    all_goals refine st ?_)
  all_goals first
  | fail_if_success with_reducible refine atR 2 ?_
  | (
    refine rg 2 [] [some 4] 1 ?_
    all_goals refine qP ?_
    all_goals refine qE ?_)
  all_goals first
  | fail_if_success with_reducible refine atR 3 ?_
  | (
    refine rg 3 [] [some 5] 1 ?_
    all_goals refine qP ?_
    all_goals refine qE ?_)
  all_goals first
  | fail_if_success with_reducible refine AW.rounds (α := Nat) ?_ ?_ ?_ ?_ ?_ ?_ ?_ ?_
  | (
    refine AW.rounds (α := Nat) (fun i => i ≤ a.length ∧ a.length = b.length ∧ ∀ j, j < i → a[j]? = b[j]?) (fun i => St.by [(0, .d (.of owX a)), (1, .d (.of owX b)), (5, .d (.int .i64 i))] []) (fun i => a.length - i) 1 0 ?_ ?_ ?_
    · exact ⟨by omega, by omega, fun j hj => by omega⟩
    · refine Vw.to [] _ _ (vU hU) ?_ ?_ (by simp [tauL])
      · refine vd (vd (vw_d ?_ (trivial)))
        · first
          | exact cl2
          | (
            refine sm2 ?_
            all_goals (
             rfl))
      · trivial
    · intro i hJ
      refine st ?_
      obtain ⟨hJ1, hJ2, hJ3⟩ := hJ
      all_goals first
      | fail_if_success with_reducible refine atR 4 ?_
      | (
        refine rg 4 [] [some 11, some 12, some 13, some 14] 4 ?_
        all_goals iterate 4 refine qP ?_
        all_goals refine qE ?_)
      all_goals first
      | fail_if_success with_reducible refine atC 14 ?_
      | (
        refine cn 14 ?_ ?_ <;> intro hc14 <;> try (cases hc14; done)
        all_goals refine st ?_)
      all_goals first
      | fail_if_success with_reducible refine atR 6 ?_
      | (
        refine rgD 6 [] [some 17, some 18, some 19, some 20, some 21, some 22, some 23, some 24, some 25, some 26] 10 11 ?_
        intro av hav
        all_goals iterate 2 refine qP ?_
        all_goals (
          refine qL_cons ?_
          intro R hR
          refine sm ?_
          refine ⟨⟨by omega, by omega⟩, ?_⟩
          intro x1 hx1
          try refine sm ?_
          all_goals (refine hR _ ?_; clear hR R))
        all_goals iterate 3 refine qP ?_
        all_goals (
          refine qL_cons ?_
          intro R hR
          refine sm ?_
          refine ⟨⟨by omega, by omega⟩, ?_⟩
          intro x2 hx2
          try refine sm ?_
          all_goals (refine hR _ ?_; clear hR R))
        all_goals refine qP ?_
        all_goals (
          refine qL_cons ?_
          intro R hR
          refine sm ?_
          refine call_fun (eqTOw x1 x2) [] ?_ (.inl rfl) ?_
          · exact ⟨.inl rfl, ⟨.inl rfl, trivial⟩⟩
          refine sm ?_
          all_goals (refine hR _ ?_; clear hR R))
        all_goals refine qP ?_
        all_goals refine qE ?_
        all_goals clear  hav av)
      all_goals first
      | fail_if_success with_reducible refine atC 26 ?_
      | (
        refine cn 26 ?_ ?_ <;> intro hc26 <;> try (cases hc26; done)
        all_goals refine st ?_)
      all_goals first
      | fail_if_success with_reducible refine atR 7 ?_
      | (
        refine rg 7 [] [some 4] 1 ?_
        all_goals refine qP ?_
        all_goals refine qE ?_)
      all_goals first
      | fail_if_success with_reducible refine atR 5 ?_
      | (
        refine rg 5 [] [some 15, some 16, some 5] 3 ?_
        all_goals refine qP ?_
        all_goals (
          refine qL_cons ?_
          intro R hR
          refine sm ?_
          rw [wrap64 (by omega) (by omega)]
          all_goals (refine hR _ ?_; clear hR R))
        all_goals refine qP ?_
        all_goals refine qE ?_)
      all_goals first
      | fail_if_success with_reducible refine ⟨i + 1, ?_, ?_, ?_⟩
      | (
        refine ⟨i + 1, ?_, ?_, ?_⟩
        · refine ⟨by omega, hJ2, fun j hj => ?_⟩
          by_cases hji : j = i
          · subst hji; simp_all
          · exact hJ3 j (by omega)
        · omega
        · refine Vw.to [] _ _ (vU hU) ?_ ?_ (by simp [tauL])
          · refine vd (vd (vw_d ?_ (trivial)))
            · first
              | exact cl2
              | (
                refine sm2 ?_
                all_goals (
                 congr 1))
          · trivial)
      all_goals first
      | fail_if_success with_reducible refine atR 8 ?_
      | (
        refine rg 8 [] [some 4] 1 ?_
        all_goals refine qP ?_
        all_goals refine qE ?_)
      all_goals first
      | fail_if_success with_reducible refine ret_fun (t := 4) ?_ ?_
      | (
        refine ret_fun (t := 4) ?_ (fun _ => rfl)
        first
        | exact cl
        | (
          try refine sm ?_
          all_goals (
           first
             | (congr 2; symm; rw [decide_eq_false_iff_not]; intro hab; subst hab; simp_all; done)
             | (congr 2; symm; rw [decide_eq_true_eq]; apply List.ext_getElem?; intro j; by_cases hj : j < i
                · exact hJ3 j hj
                · rw [List.getElem?_eq_none (by omega), List.getElem?_eq_none (by omega)])))))
  all_goals first
  | fail_if_success with_reducible refine ret_fun (t := 4) ?_ ?_
  | (
    refine ret_fun (t := 4) ?_ (fun _ => rfl)
    first
    | exact cl
    | (
      try refine sm ?_
      all_goals (
       first
         | (congr 2; symm; rw [decide_eq_false_iff_not]; intro hab; subst hab; simp_all; done)
         | (congr 2; symm; rw [decide_eq_true_eq]; apply List.ext_getElem?; intro j; by_cases hj : j < i
            · exact hJ3 j hj
            · rw [List.getElem?_eq_none (by omega), List.getElem?_eq_none (by omega)]))))

theorem owL_get {ss : List Ow} {i : Nat} {x : OwQ} (hi : i < ss.length) (h : (owL ss false)[i]? = some x) : ∃ v, v ∈ ss ∧ x = owT false v := by
  unfold owL at h
  rw [List.getElem?_append_left (by simpa using hi)] at h
  simp only [List.getElem?_map, List.getElem?_eq_getElem hi, Option.map_some, Option.some.injEq] at h
  exact ⟨_, List.getElem_mem _, h.symm⟩
theorem owL_len (ss : List Ow) (b : Bool) : (owL ss b).length = ss.length + room ss.length := by simp [owL]
theorem owQ_len (l : List OwQ) : ∀ x ∈ l.map owQ, x.length = 2 := by
  intro x hx
  obtain ⟨s, -, rfl⟩ := List.mem_map.1 hx
  rfl
theorem owL_tail (ss : List Ow) : (((owL ss false).map owQ).take (ss.length + room ss.length)).drop ss.length = (List.replicate (room ss.length) fillOw).map owX := by
  rw [List.take_of_length_le (by simp [owL])]
  unfold owL
  rw [List.map_append, List.drop_left' (by simp), List.map_replicate, List.map_replicate]
  rfl
theorem owL_nil {ss : List Ow} (hr : room ss.length = 0) : (((owL ss false).map owQ).take ss.length).drop ss.length = ([] : List Ow).map owX := by
  simp
def toOwD (ss : List Ow) : D := spOf ss.length ((owL ss false).map owQ)
theorem toOws_false (ss : List Ow) : toOws ss false = .d (toOwD ss) := rfl
theorem owT_bare (b : Bool) (v : Ow) : D.bareL (owQ (owT b v)) = owX v := by
  simp only [owQ, owT, owX, D.bareL, toSD_bare, D.bare]
  all_goals rfl
theorem toOws_bare (ss : List Ow) (b : Bool) : (toOws ss b).bare = .d (.of owX ss) := by
  unfold toOws
  split
  · rename_i hh
    have : ss = [] := by simp at hh; exact hh.2
    subst this; rfl
  · show X.d (D.bare _) = _
    unfold owL
    rw [List.map_append, spOf_bare (by simp), List.map_map, bareLL_map]
    simp only [Function.comp, owT_bare, D.of]
theorem owL_all (ss : List Ow) : (owL ss false).map owQ = (ss ++ List.replicate (room ss.length) fillOw).map owX := by
  unfold owL
  rw [List.map_append, List.map_append, List.map_map, List.map_replicate, List.map_replicate]
  rfl
end
section
attribute [local go_sem] tsz9 tsz35 tfld35 tel25 toNat_cast und9 zero35 tsz53 tfld53 tel22 owX owQ List.length_map owL_len
theorem inAOw (ss : List Ow) (hr : room ss.length = 0) (hss : ss.length ≤ 1000000) : Fun Tryd.prog 13 [.d (.sl ((owL ss false).map owQ)), .d (.sl ((owL ss false).map owQ))] (.d (.bool true)) := by
  refine Fun.of ?_ rfl rfl
  refine Spec.of (fn := Tryd.f13) Tryd.func13 rfl (by kernel_rfl) (rs := [.tmp 4]) rfl 1 (by simp [Tryd.f13]) rfl (by simp) ?_
  intro hreal
  rintro ⟨P, T, L0, w0, ι0, C0, U0⟩ hP hT hU
  subst hP hT
  refine st ?_
  have hroom := room_le ss.length
  have hnn : (owL ss false).length = ss.length := by rw [owL_len, hr]; rfl
  have hful : ((owL ss false).map owQ).take ss.length = ss.map owX := by rw [List.take_of_length_le (by simp [owL_len, hr]), owL_all, hr, List.replicate_zero, List.append_nil]
  have e1 : (((ss.length : Nat) : Int) + ((room ss.length : Nat) : Int)).toNat = ss.length + room ss.length := by omega
  all_goals first
  | fail_if_success with_reducible refine atR 0 ?_
  | (
    refine rg 0 [] [some 4] 1 ?_
    all_goals (
      refine qL_cons ?_
      intro R hR
      simp only [go_sem, reduceIte, reduceCtorEq, Nat.reduceAdd, Nat.reduceEqDiff, Nat.reduceLeDiff, Nat.reduceLT, Nat.reduceSub, Int.reduceLE, Int.reduceNeg, Int.reduceLT, hr, hnn, Nat.add_zero, Int.natCast_zero, Int.add_zero]
      all_goals (refine hR _ ?_; clear hR R))
    all_goals refine qE ?_)
  all_goals first
  | fail_if_success with_reducible refine atR 1 ?_
  | (
    refine rg 1 [] [some 6, some 7, some 8, some 9, some 10, some 11, some 5] 7 ?_
    all_goals (
      refine qL_cons ?_
      intro R hR
      simp only [go_sem, reduceIte, reduceCtorEq, Nat.reduceAdd, Nat.reduceEqDiff, Nat.reduceLeDiff, Nat.reduceLT, Nat.reduceSub, Int.reduceLE, Int.reduceNeg, Int.reduceLT, hr, hnn, Nat.add_zero, Int.natCast_zero, Int.add_zero]
      all_goals (refine hR _ ?_; clear hR R))
    all_goals (
      refine qL_cons ?_
      intro R hR
      simp only [go_sem, reduceIte, reduceCtorEq, Nat.reduceAdd, Nat.reduceEqDiff, Nat.reduceLeDiff, Nat.reduceLT, Nat.reduceSub, Int.reduceLE, Int.reduceNeg, Int.reduceLT, hr, hnn, Nat.add_zero, Int.natCast_zero, Int.add_zero]
      all_goals (refine hR _ ?_; clear hR R))
    all_goals (
      refine qL_cons ?_
      intro R hR
      simp only [go_sem, reduceIte, reduceCtorEq, Nat.reduceAdd, Nat.reduceEqDiff, Nat.reduceLeDiff, Nat.reduceLT, Nat.reduceSub, Int.reduceLE, Int.reduceNeg, Int.reduceLT, hr, hnn, Nat.add_zero, Int.natCast_zero, Int.add_zero]
      all_goals (refine hR _ ?_; clear hR R))
    all_goals (
      refine qL_cons ?_
      intro R hR
      simp only [go_sem, reduceIte, reduceCtorEq, Nat.reduceAdd, Nat.reduceEqDiff, Nat.reduceLeDiff, Nat.reduceLT, Nat.reduceSub, Int.reduceLE, Int.reduceNeg, Int.reduceLT, hr, hnn, Nat.add_zero, Int.natCast_zero, Int.add_zero]
      all_goals (refine hR _ ?_; clear hR R))
    all_goals (
      refine qL_cons ?_
      intro R hR
      simp only [go_sem, reduceIte, reduceCtorEq, Nat.reduceAdd, Nat.reduceEqDiff, Nat.reduceLeDiff, Nat.reduceLT, Nat.reduceSub, Int.reduceLE, Int.reduceNeg, Int.reduceLT, hr, hnn, Nat.add_zero, Int.natCast_zero, Int.add_zero]
      refine call_fun (roomBehind_spec ss.length (by omega)) [] ?_ (.inl rfl) ?_
      · exact ⟨.inl rfl, trivial⟩
      simp only [go_sem, reduceIte, reduceCtorEq, Nat.reduceAdd, Nat.reduceEqDiff, Nat.reduceLeDiff, Nat.reduceLT, Nat.reduceSub, Int.reduceLE, Int.reduceNeg, Int.reduceLT, hr, hnn, Nat.add_zero, Int.natCast_zero, Int.add_zero]
      all_goals (refine hR _ ?_; clear hR R))
    all_goals (
      refine qL_cons ?_
      intro R hR
      simp only [go_sem, reduceIte, reduceCtorEq, Nat.reduceAdd, Nat.reduceEqDiff, Nat.reduceLeDiff, Nat.reduceLT, Nat.reduceSub, Int.reduceLE, Int.reduceNeg, Int.reduceLT, hr, hnn, Nat.add_zero, Int.natCast_zero, Int.add_zero]
      rw [wrap64 (by omega) (by omega)]
      all_goals (refine hR _ ?_; clear hR R))
    all_goals (
      refine qL_cons ?_
      intro R hR
      simp only [go_sem, reduceIte, reduceCtorEq, Nat.reduceAdd, Nat.reduceEqDiff, Nat.reduceLeDiff, Nat.reduceLT, Nat.reduceSub, Int.reduceLE, Int.reduceNeg, Int.reduceLT, hr, hnn, Nat.add_zero, Int.natCast_zero, Int.add_zero]
      all_goals (refine hR _ ?_; clear hR R))
    all_goals refine qE ?_)
  all_goals first
  | fail_if_success with_reducible refine atR 2 ?_
  | (
    refine rgD 2 [] [some 12, some 13, some 14, some 15, some 16, some 17, some 18, some 19, some 20, some 21, some 22, some 23, some 24, some 25, some 4] 15 16 ?_
    intro av hav
    all_goals (
      refine qL_cons ?_
      intro R hR
      simp only [go_sem, reduceIte, reduceCtorEq, Nat.reduceAdd, Nat.reduceEqDiff, Nat.reduceLeDiff, Nat.reduceLT, Nat.reduceSub, Int.reduceLE, Int.reduceNeg, Int.reduceLT, hr, hnn, Nat.add_zero, Int.natCast_zero, Int.add_zero]
      all_goals (refine hR _ ?_; clear hR R))
    all_goals (
      refine qL_cons ?_
      intro R hR
      simp only [go_sem, reduceIte, reduceCtorEq, Nat.reduceAdd, Nat.reduceEqDiff, Nat.reduceLeDiff, Nat.reduceLT, Nat.reduceSub, Int.reduceLE, Int.reduceNeg, Int.reduceLT, hr, hnn, Nat.add_zero, Int.natCast_zero, Int.add_zero]
      all_goals (refine hR _ ?_; clear hR R))
    all_goals (
      refine qL_cons ?_
      intro R hR
      simp only [go_sem, reduceIte, reduceCtorEq, Nat.reduceAdd, Nat.reduceEqDiff, Nat.reduceLeDiff, Nat.reduceLT, Nat.reduceSub, Int.reduceLE, Int.reduceNeg, Int.reduceLT, hr, hnn, Nat.add_zero, Int.natCast_zero, Int.add_zero]
      all_goals (refine hR _ ?_; clear hR R))
    all_goals (
      refine qL_cons ?_
      intro R hR
      simp only [go_sem, reduceIte, reduceCtorEq, Nat.reduceAdd, Nat.reduceEqDiff, Nat.reduceLeDiff, Nat.reduceLT, Nat.reduceSub, Int.reduceLE, Int.reduceNeg, Int.reduceLT, hr, hnn, Nat.add_zero, Int.natCast_zero, Int.add_zero]
      all_goals (refine hR _ ?_; clear hR R))
    all_goals (
      refine qL_cons ?_
      intro R hR
      simp only [go_sem, reduceIte, reduceCtorEq, Nat.reduceAdd, Nat.reduceEqDiff, Nat.reduceLeDiff, Nat.reduceLT, Nat.reduceSub, Int.reduceLE, Int.reduceNeg, Int.reduceLT, hr, hnn, Nat.add_zero, Int.natCast_zero, Int.add_zero]
      all_goals (refine hR _ ?_; clear hR R))
    all_goals (
      refine qL_cons ?_
      intro R hR
      simp only [go_sem, reduceIte, reduceCtorEq, Nat.reduceAdd, Nat.reduceEqDiff, Nat.reduceLeDiff, Nat.reduceLT, Nat.reduceSub, Int.reduceLE, Int.reduceNeg, Int.reduceLT, hr, hnn, Nat.add_zero, Int.natCast_zero, Int.add_zero]
      all_goals (refine hR _ ?_; clear hR R))
    all_goals first | refine qU 17 ?_ | (refine qS 17 ?_ ?_ <;> intro hg2_5 <;> try (cases hg2_5; done))
    all_goals first
    | (
      refine qL_cons ?_
      intro R hR
      simp only [go_sem, reduceIte, reduceCtorEq, Nat.reduceAdd, Nat.reduceEqDiff, Nat.reduceLeDiff, Nat.reduceLT, Nat.reduceSub, Int.reduceLE, Int.reduceNeg, Int.reduceLT, hr, hnn, Nat.add_zero, Int.natCast_zero, Int.add_zero]
      refine hR _ ?_
      clear hR R)
    | refine qP ?_
    all_goals first
    | (
      refine qL_cons ?_
      intro R hR
      simp only [go_sem, reduceIte, reduceCtorEq, Nat.reduceAdd, Nat.reduceEqDiff, Nat.reduceLeDiff, Nat.reduceLT, Nat.reduceSub, Int.reduceLE, Int.reduceNeg, Int.reduceLT, hr, hnn, Nat.add_zero, Int.natCast_zero, Int.add_zero]
      refine hR _ ?_
      clear hR R)
    | refine qP ?_
    all_goals first
    | (
      refine qL_cons ?_
      intro R hR
      simp only [go_sem, reduceIte, reduceCtorEq, Nat.reduceAdd, Nat.reduceEqDiff, Nat.reduceLeDiff, Nat.reduceLT, Nat.reduceSub, Int.reduceLE, Int.reduceNeg, Int.reduceLT, hr, hnn, Nat.add_zero, Int.natCast_zero, Int.add_zero]
      refine ⟨owQ_len _, ⟨by omega, by omega⟩, ?_⟩
      simp only [toNat_cast, hful, List.drop_zero]
      refine hR _ ?_
      clear hR R)
    | refine qP ?_
    all_goals first
    | (
      refine qL_cons ?_
      intro R hR
      simp only [go_sem, reduceIte, reduceCtorEq, Nat.reduceAdd, Nat.reduceEqDiff, Nat.reduceLeDiff, Nat.reduceLT, Nat.reduceSub, Int.reduceLE, Int.reduceNeg, Int.reduceLT, hr, hnn, Nat.add_zero, Int.natCast_zero, Int.add_zero]
      refine hR _ ?_
      clear hR R)
    | refine qP ?_
    all_goals first
    | (
      refine qL_cons ?_
      intro R hR
      simp only [go_sem, reduceIte, reduceCtorEq, Nat.reduceAdd, Nat.reduceEqDiff, Nat.reduceLeDiff, Nat.reduceLT, Nat.reduceSub, Int.reduceLE, Int.reduceNeg, Int.reduceLT, hr, hnn, Nat.add_zero, Int.natCast_zero, Int.add_zero]
      refine hR _ ?_
      clear hR R)
    | refine qP ?_
    all_goals first
    | (
      refine qL_cons ?_
      intro R hR
      simp only [go_sem, reduceIte, reduceCtorEq, Nat.reduceAdd, Nat.reduceEqDiff, Nat.reduceLeDiff, Nat.reduceLT, Nat.reduceSub, Int.reduceLE, Int.reduceNeg, Int.reduceLT, hr, hnn, Nat.add_zero, Int.natCast_zero, Int.add_zero]
      refine ⟨owQ_len _, ⟨by omega, by omega⟩, ?_⟩
      simp only [toNat_cast, hful, List.drop_zero]
      refine hR _ ?_
      clear hR R)
    | refine qP ?_
    all_goals first
    | (
      refine qL_cons ?_
      intro R hR
      refine sm ?_
      refine call_fun (eqTOws ss ss) [] ?_ (.inl rfl) ?_
      · exact ⟨.inl rfl, ⟨.inl rfl, trivial⟩⟩
      refine sm ?_
      refine hR _ ?_
      clear hR R)
    | refine qP ?_
    all_goals (
      refine qL_cons ?_
      intro R hR
      simp only [go_sem, reduceIte, reduceCtorEq, Nat.reduceAdd, Nat.reduceEqDiff, Nat.reduceLeDiff, Nat.reduceLT, Nat.reduceSub, Int.reduceLE, Int.reduceNeg, Int.reduceLT, hr, hnn, Nat.add_zero, Int.natCast_zero, Int.add_zero]
      all_goals (refine hR _ ?_; clear hR R))
    all_goals (
      refine qL_cons ?_
      intro R hR
      simp only [go_sem, reduceIte, reduceCtorEq, Nat.reduceAdd, Nat.reduceEqDiff, Nat.reduceLeDiff, Nat.reduceLT, Nat.reduceSub, Int.reduceLE, Int.reduceNeg, Int.reduceLT, hr, hnn, Nat.add_zero, Int.natCast_zero, Int.add_zero]
      all_goals (refine hR _ ?_; clear hR R))
    all_goals refine qE ?_
    all_goals clear  hav av)
  all_goals first
  | fail_if_success with_reducible refine ret_fun (t := 4) ?_ ?_
  | (
    refine ret_fun (t := 4) ?_ (fun _ => rfl)
    first
    | exact cl
    | (
      try simp only [go_sem, reduceIte, reduceCtorEq, Nat.reduceAdd, Nat.reduceEqDiff, Nat.reduceLeDiff, Nat.reduceLT, Nat.reduceSub, Int.reduceLE, Int.reduceNeg, Int.reduceLT, hr, hnn, Nat.add_zero, Int.natCast_zero, Int.add_zero]
      all_goals (
       simp)))

end
section
attribute [local go_sem] tsz9 tsz35 tfld35 tel25 toNat_cast und9 zero35 tsz53 tfld53 tel22 owX owQ List.length_map owL_len
theorem inBOw (ss : List Ow) (hss : ss.length ≤ 1000000) : Fun Tryd.prog 13 [.d (.sp ss.length ((owL ss false).map owQ)), .d (.sp ss.length ((owL ss false).map owQ))] (.d (.bool true)) := by
  refine Fun.of ?_ rfl rfl
  refine Spec.of (fn := Tryd.f13) Tryd.func13 rfl (by kernel_rfl) (rs := [.tmp 4]) rfl 1 (by simp [Tryd.f13]) rfl (by simp) ?_
  intro hreal
  rintro ⟨P, T, L0, w0, ι0, C0, U0⟩ hP hT hU
  subst hP hT
  refine st ?_
  have hroom := room_le ss.length
  have hnn : (owL ss false).length = ss.length + room ss.length := owL_len ss false
  have hful : ((owL ss false).map owQ).take (ss.length + room ss.length) = (ss ++ List.replicate (room ss.length) fillOw).map owX := by rw [List.take_of_length_le (by simp [owL_len]), owL_all]
  have e1 : (((ss.length : Nat) : Int) + ((room ss.length : Nat) : Int)).toNat = ss.length + room ss.length := by omega
  all_goals first
  | fail_if_success with_reducible refine atR 0 ?_
  | (
    refine rg 0 [] [some 4] 1 ?_
    all_goals refine qP ?_
    all_goals refine qE ?_)
  all_goals first
  | fail_if_success with_reducible refine atR 1 ?_
  | (
    refine rg 1 [] [some 6, some 7, some 8, some 9, some 10, some 11, some 5] 7 ?_
    all_goals iterate 4 refine qP ?_
    all_goals (
      refine qL_cons ?_
      intro R hR
      refine sm ?_
      refine call_fun (roomBehind_spec ss.length (by omega)) [] ?_ (.inl rfl) ?_
      · exact ⟨.inl rfl, trivial⟩
      refine sm ?_
      all_goals (refine hR _ ?_; clear hR R))
    all_goals (
      refine qL_cons ?_
      intro R hR
      refine sm ?_
      rw [wrap64 (by omega) (by omega)]
      all_goals (refine hR _ ?_; clear hR R))
    all_goals refine qP ?_
    all_goals refine qE ?_)
  all_goals first
  | fail_if_success with_reducible refine atR 2 ?_
  | (
    refine rgD 2 [] [some 12, some 13, some 14, some 15, some 16, some 17, some 18, some 19, some 20, some 21, some 22, some 23, some 24, some 25, some 4] 15 16 ?_
    intro av hav
    all_goals iterate 6 refine qP ?_
    all_goals first | refine qU 17 ?_ | (refine qS 17 ?_ ?_ <;> intro hg2_5 <;> try (cases hg2_5; done))
    all_goals iterate 2 refine qP ?_
    all_goals first
    | (
      refine qL_cons ?_
      intro R hR
      refine sm ?_
      refine ⟨owQ_len _, ⟨by omega, by omega⟩, ?_⟩
      simp only [toNat_cast, e1, hful, List.drop_zero]
      refine hR _ ?_
      clear hR R)
    | refine qP ?_
    all_goals iterate 2 refine qP ?_
    all_goals first
    | (
      refine qL_cons ?_
      intro R hR
      refine sm ?_
      refine ⟨owQ_len _, ⟨by omega, by omega⟩, ?_⟩
      simp only [toNat_cast, e1, hful, List.drop_zero]
      refine hR _ ?_
      clear hR R)
    | refine qP ?_
    all_goals first
    | (
      refine qL_cons ?_
      intro R hR
      refine sm ?_
      refine call_fun (eqTOws (ss ++ List.replicate (room ss.length) fillOw) (ss ++ List.replicate (room ss.length) fillOw)) [] ?_ (.inl rfl) ?_
      · exact ⟨.inl rfl, ⟨.inl rfl, trivial⟩⟩
      refine sm ?_
      refine hR _ ?_
      clear hR R)
    | refine qP ?_
    all_goals iterate 2 refine qP ?_
    all_goals refine qE ?_
    all_goals clear  hav av)
  all_goals first
  | fail_if_success with_reducible refine ret_fun (t := 4) ?_ ?_
  | (
    refine ret_fun (t := 4) ?_ (fun _ => rfl)
    first
    | exact cl
    | (
      try refine sm ?_
      all_goals (
       simp)))

theorem inTOws (ss : List Ow) (hss : ss.length ≤ 1000000) : Fun Tryd.prog 13 [.d (toOwD ss), .d (toOwD ss)] (.d (.bool true)) := by
  unfold toOwD spOf
  split
  · rename_i hh
    exact inAOw ss (by simp only [List.length_map, owL_len] at hh; omega) hss
  · exact inBOw ss hss
end
end Go.Proofs.YtkbnkcdaiahoeaaDoor
