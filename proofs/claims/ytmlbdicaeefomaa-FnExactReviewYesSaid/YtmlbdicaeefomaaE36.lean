/- copies of strings and reviews as own rows; reviews are equal. No condition. -/
import Derived.Test.YtmlbdicaeefomaaE30
import Derived.Test.YtmlbdicaeefomaaAxF
namespace Go.Proofs.Ytmlbdicaeefomaa
open Go Go.RowKit
set_option maxRecDepth 100000
set_option maxHeartbeats 1000000
set_option linter.unusedSimpArgs false
set_option linter.unusedVariables false
def rowS (ss : List ByteArray) : List ByteArray := ss ++ List.replicate (room ss.length) spare
theorem rowS_len (ss : List ByteArray) : (rowS ss).length = ss.length + room ss.length := by simp [rowS]
theorem rowS_take (ss : List ByteArray) : ((rowS ss).map sS).take ss.length = ss.map sS := by
  rw [← List.map_take, rowS, List.take_left' rfl]
attribute [local go_sem] List.size_toArray Int.toNat_zero Nat.sub_zero size_mk top_val eq_self datL X.dat u8min u8max i64min i64max stepT gdO aop ev lit litOk putF fzX_false putO upd app List.contains_nil List.elem_nil aBin aInt aStr aBool aLen lenTy aBuiltin aLoad aTake aTakeX aStore splice aSlice aBd look_cons look_nil lookC_cons lookC_nil by_s by_C start_s start_C X.cells X.cell List.all_cons List.all_nil Bool.and_self Bool.not_true Bool.not_false false_implies true_implies forall_const and_true true_and and_self implies_true not_false_eq_true Nat.zero_add Nat.add_zero List.getD_cons_zero List.getD_cons_succ List.map_cons List.map_nil Option.bind_some Option.map_some Option.map_none List.getElem?_cons_zero List.getElem?_cons_succ List.length_cons List.length_nil List.drop_zero List.drop_succ_cons List.take_succ_cons List.take_zero List.cons_append List.nil_append List.append_nil D.of List.length_map all_get_map Option.isSome_some and_false false_and Nat.lt_add_one Nat.zero_lt_succ decide_true decide_false fzX litEs List.contains_cons List.elem_cons Bool.true_or Bool.or_true Bool.false_or Bool.or_false beq_self_eq_true
section
attribute [local go_sem] tsz9 tsz22 tsz27 tfld27 tsz24 tfld24 tel22 toNat_cast sS und9 addNat z9
theorem toStringR (ss : List ByteArray) (hss : ss.length ≤ 1000000) : FunR Try.prog 32 [.d (strs ss), .d (.bool false)] (fun m => .vec m 1 0 ss.length) (.vec 9 1 ((rowS ss).map sS)) := by
  refine FunR.of ?_ rfl
  refine Spec.of (fn := Try.f32) Try.func32 rfl (by kernel_rfl) (rs := [.tmp 4]) rfl 1 (by simp [Try.f32]) rfl (by simp) ?_
  intro hreal
  rintro ⟨P, T, L0, w0, ι0, C0, U0⟩ hP hT hU
  subst hP hT
  refine st ?_
  have hroom := room_le ss.length
  all_goals first
  | fail_if_success with_reducible refine atR 0 ?_
  | (
    refine rg 0 [] [some 4] 1 ?_
    all_goals refine qP ?_
    all_goals refine qE ?_)
  all_goals first
  | fail_if_success with_reducible refine atR 1 ?_
  | (
    refine rg 1 [] [some 8, some 9, some 10, some 11, some 12, some 13] 6 ?_
    all_goals iterate 2 refine qP ?_
    all_goals first | refine qU 9 ?_ | (refine qS 9 ?_ ?_ <;> intro hg1_1 <;> try (cases hg1_1; done))
    all_goals iterate 4 refine qP ?_
    all_goals refine qE ?_)
  all_goals first
  | fail_if_success with_reducible refine atC 13 ?_
  | (
    refine cn 13 ?_ ?_ <;> intro hc13 <;> try (cases hc13; done)
    all_goals refine st ?_)
  all_goals first
  | fail_if_success with_reducible refine atR 2 ?_
  | (
    refine rg 2 [] [some 4] 1 ?_
    all_goals refine qP ?_
    all_goals refine qE ?_)
  all_goals first
  | fail_if_success with_reducible refine atR 3 ?_
  | (
    refine rg 3 [] [some 14, some 15, some 16, some 17, some 18, some 19, some 20, some 5] 8 ?_
    all_goals iterate 4 refine qP ?_
    all_goals (
      refine qL_cons ?_
      intro R hR
      refine sm ?_
      refine call_fun (roomBehind_spec ss.length (by omega)) [] ?_ (.inl rfl) ?_
      · exact ⟨.inl rfl, trivial⟩
      refine sm ?_
      all_goals (refine hR _ ?_; clear hR R))
    all_goals (
      refine qL_cons ?_
      intro R hR
      refine sm ?_
      rw [wrap64 (by omega) (by omega)]
      all_goals (refine hR _ ?_; clear hR R))
    all_goals (
      refine qL_cons ?_
      intro R hR
      refine sm ?_
      refine ⟨⟨by omega, by omega, by omega, by omega⟩, ?_⟩
      all_goals (refine hR _ ?_; clear hR R))
    all_goals refine qP ?_
    all_goals refine qE ?_)
  all_goals first
  | fail_if_success with_reducible refine atR 4 ?_
  | (
    refine rg 4 [] [some 6] 1 ?_
    all_goals refine qP ?_
    all_goals refine qE ?_)
  all_goals first
  | fail_if_success with_reducible refine AW.rounds (α := (Nat × List ByteArray)) ?_ ?_ ?_ ?_ ?_ ?_ ?_ ?_
  | (
    refine AW.rounds (α := (Nat × List ByteArray)) (fun p => p.1 ≤ ss.length ∧ p.2.length = (ss.length + room ss.length) ∧ ∀ j, j < p.1 → p.2[j]? = ss[j]?) (fun p => St.by [(0, .d (strs ss)), (5, .vec 14 1 0 (ss.length + room ss.length)), (6, .d (.int .i64 p.1))] [(14, .vec 9 1 (p.2.map sS))]) (fun p => ss.length - p.1) 15 (0, List.replicate (ss.length + room ss.length) ByteArray.empty) ?_ ?_ ?_
    · refine ⟨by simp, by simp, fun j hj => ?_⟩
      simp only at hj; omega
    · refine Vw.to [] _ _ (vU hU) ?_ ?_ (by simp [tauL])
      · refine vd (vx (vw_d ?_ (trivial)))
        · first
          | exact cl2
          | (
            refine sm2 ?_
            all_goals (
             rfl))
      · refine ⟨⟨by simp, rfl, ?_⟩, trivial⟩
        refine sm3 ?_
        simp [sS]
    · intro p hJ
      refine st ?_
      obtain ⟨hJ1, hJ2, hJ3⟩ := hJ
      all_goals first
      | fail_if_success with_reducible refine atR 5 ?_
      | (
        refine rg 5 [] [some 21, some 22, some 23, some 24] 4 ?_
        all_goals iterate 4 refine qP ?_
        all_goals refine qE ?_)
      all_goals first
      | fail_if_success with_reducible refine atC 24 ?_
      | (
        refine cn 24 ?_ ?_ <;> intro hc24 <;> try (cases hc24; done)
        all_goals refine st ?_)
      all_goals first
      | fail_if_success with_reducible refine atR 7 ?_
      | (
        refine rg 7 [] [some 27, some 28, some 29, some 30, some 31, some 32, some 33, none] 8 ?_
        all_goals iterate 4 refine qP ?_
        all_goals (
          refine qL_cons ?_
          intro R hR
          refine sm ?_
          refine ⟨⟨by omega, by omega⟩, ?_⟩
          intro x4 hx4
          all_goals (refine hR _ ?_; clear hR R))
        all_goals refine qP ?_
        all_goals (
          refine qL_cons ?_
          intro R hR
          refine sm ?_
          refine ⟨⟨by omega, by omega⟩, ?_⟩
          all_goals (refine hR _ ?_; clear hR R))
        all_goals (
          refine qL_cons ?_
          intro R hR
          refine sm ?_
          refine ⟨by omega, ?_⟩
          intro x7 hx7
          all_goals (refine hR _ ?_; clear hR R))
        all_goals refine qE ?_)
      all_goals first
      | fail_if_success with_reducible refine atR 6 ?_
      | (
        refine rg 6 [] [some 25, some 26, some 6] 3 ?_
        all_goals refine qP ?_
        all_goals (
          refine qL_cons ?_
          intro R hR
          refine sm ?_
          rw [wrap64 (by omega) (by omega)]
          all_goals (refine hR _ ?_; clear hR R))
        all_goals refine qP ?_
        all_goals refine qE ?_)
      all_goals first
      | fail_if_success with_reducible refine ⟨(p.1 + 1, p.2.set p.1 x4), ?_, ?_, ?_⟩
      | (
        refine ⟨(p.1 + 1, p.2.set p.1 x4), ?_, ?_, ?_⟩
        · refine ⟨by simp only; omega, by simp only [List.length_set]; omega, fun j hj => ?_⟩
          simp only at hj ⊢
          by_cases hjp : j = p.1
          · subst hjp; rw [List.getElem?_set_self (by omega), hx4]
          · rw [List.getElem?_set_ne (Ne.symm hjp)]; exact hJ3 j (by omega)
        · simp only; omega
        · refine Vw.to [] _ _ (vU hU) ?_ ?_ (by simp [tauL])
          · refine vd (vx (vw_d ?_ (trivial)))
            · first
              | exact cl2
              | (
                refine sm2 ?_
                all_goals (
                 congr 1))
          · refine ⟨⟨by simp, rfl, ?_⟩, trivial⟩
            refine sm3 ?_
            simp [List.map_set, sS])
      all_goals first
      | fail_if_success with_reducible refine atR 8 ?_
      | (
        refine rg 8 [] [some 34, some 35, some 7] 3 ?_
        all_goals iterate 3 refine qP ?_
        all_goals refine qE ?_)
      all_goals first
      | fail_if_success with_reducible refine AW.rounds (α := (Nat × List ByteArray)) ?_ ?_ ?_ ?_ ?_ ?_ ?_ ?_
      | (
        refine AW.rounds (α := (Nat × List ByteArray)) (fun q => ss.length ≤ q.1 ∧ q.1 ≤ (ss.length + room ss.length) ∧ q.2.length = (ss.length + room ss.length) ∧ (∀ j, j < ss.length → q.2[j]? = ss[j]?) ∧ (∀ j, ss.length ≤ j → j < q.1 → q.2[j]? = some spare)) (fun q => St.by [(0, .d (strs ss)), (5, .vec 14 1 0 (ss.length + room ss.length)), (7, .d (.int .i64 q.1))] [(14, .vec 9 1 (q.2.map sS))]) (fun q => (ss.length + room ss.length) - q.1) 15 (ss.length, p.2) ?_ ?_ ?_
        · refine ⟨by simp, by simp, by simp only; omega, fun j hj => hJ3 j (by omega), fun j h1 h2 => ?_⟩
          simp only at h2; omega
        · refine Vw.to [] _ _ (vU hU) ?_ ?_ (by simp [tauL])
          · refine vd (vx (vd (trivial)))
          · refine ⟨⟨by simp, rfl, ?_⟩, trivial⟩
            exact cl4
        · intro q hJ
          refine st ?_
          obtain ⟨hK1, hK2, hK3, hK4, hK5⟩ := hJ
          all_goals first
          | fail_if_success with_reducible refine atR 9 ?_
          | (
            refine rg 9 [] [some 36, some 37, some 38, some 39] 4 ?_
            all_goals iterate 2 refine qP ?_
            all_goals (
              refine qL_cons ?_
              intro R hR
              refine sm ?_
              refine ⟨by omega, ?_⟩
              all_goals (refine hR _ ?_; clear hR R))
            all_goals refine qP ?_
            all_goals refine qE ?_)
          all_goals first
          | fail_if_success with_reducible refine atC 39 ?_
          | (
            refine cn 39 ?_ ?_ <;> intro hc39 <;> try (cases hc39; done)
            all_goals refine st ?_)
          all_goals first
          | fail_if_success with_reducible refine atR 11 ?_
          | (
            refine rg 11 [] [some 42, some 43, some 44, none] 4 ?_
            all_goals iterate 2 refine qP ?_
            all_goals (
              refine qL_cons ?_
              intro R hR
              refine sm ?_
              refine ⟨⟨by omega, by omega⟩, ?_⟩
              all_goals (refine hR _ ?_; clear hR R))
            all_goals (
              refine qL_cons ?_
              intro R hR
              refine sm ?_
              refine ⟨by omega, ?_⟩
              intro x7 hx7
              all_goals (refine hR _ ?_; clear hR R))
            all_goals refine qE ?_)
          all_goals first
          | fail_if_success with_reducible refine atR 10 ?_
          | (
            refine rg 10 [] [some 40, some 41, some 7] 3 ?_
            all_goals refine qP ?_
            all_goals (
              refine qL_cons ?_
              intro R hR
              refine sm ?_
              rw [wrap64 (by omega) (by omega)]
              all_goals (refine hR _ ?_; clear hR R))
            all_goals refine qP ?_
            all_goals refine qE ?_)
          all_goals first
          | fail_if_success with_reducible refine ⟨(q.1 + 1, q.2.set q.1 spare), ?_, ?_, ?_⟩
          | (
            refine ⟨(q.1 + 1, q.2.set q.1 spare), ?_, ?_, ?_⟩
            · refine ⟨by simp only; omega, by simp only; omega, by simp only [List.length_set]; omega, fun j hj => ?_, fun j h1 h2 => ?_⟩
              · simp only at hj ⊢
                rw [List.getElem?_set_ne (by omega)]; exact hK4 j hj
              · simp only at h1 h2 ⊢
                by_cases hjp : j = q.1
                · subst hjp; rw [List.getElem?_set_self (by omega)]
                · rw [List.getElem?_set_ne (Ne.symm hjp)]; exact hK5 j h1 (by omega)
            · simp only; omega
            · refine Vw.to [] _ _ (vU hU) ?_ ?_ (by simp [tauL])
              · refine vd (vx (vw_d ?_ (trivial)))
                · first
                  | exact cl2
                  | (
                    refine sm2 ?_
                    all_goals (
                     congr 1))
              · refine ⟨⟨by simp, rfl, ?_⟩, trivial⟩
                refine sm3 ?_
                simp [List.map_set, sS, spare])
          all_goals first
          | fail_if_success with_reducible refine atR 12 ?_
          | (
            refine rg 12 [] [some 45, some 46, some 47, some 48, some 4] 5 ?_
            all_goals iterate 3 refine qP ?_
            all_goals (
              refine qL_cons ?_
              intro R hR
              refine sm ?_
              refine ⟨⟨by omega, by omega⟩, ?_⟩
              all_goals (refine hR _ ?_; clear hR R))
            all_goals refine qP ?_
            all_goals refine qE ?_)
          all_goals (
            have hq : q.2 = rowS ss := toS_end hK3 hK4 (fun j h1 h2 => hK5 j h1 (by omega))
            rw [← hq]
            exact ret_vec 14 hU cl cl)))

end
section
attribute [local go_sem] tsz9 tsz22 tsz27 tfld27 tsz24 tfld24 tel22 toNat_cast und9 zero27
theorem toReviewR (v : Rv) (hv : v.yes.length ≤ 1000000) : FunR Try.prog 10 [.ag [.d (.str v.br), .d (.str v.into), .d (.str v.by_), .d (strs v.yes)], .d (.bool false)] (fun m => .ag [.d (.str v.br), .d (.str v.into), .d (.str v.by_), .vec m 1 0 v.yes.length]) (.vec 9 1 ((rowS v.yes).map sS)) := by
  refine FunR.of ?_ rfl
  refine Spec.of (fn := Try.f10) Try.func10 rfl (by kernel_rfl) (rs := [.cell 4 27]) rfl 1 (by simp [Try.f10]) rfl (by simp) ?_
  intro hreal
  rintro ⟨P, T, L0, w0, ι0, C0, U0⟩ hP hT hU
  subst hP hT
  refine st ?_
  all_goals first
  | fail_if_success with_reducible refine atR 0 ?_
  | (
    refine rg 0 [] [some 2, some 4] 2 ?_
    all_goals iterate 2 refine qP ?_
    all_goals refine qE ?_)
  all_goals first
  | fail_if_success with_reducible refine atR 1 ?_
  | (
    refine rg 1 [] [some 5] 1 ?_
    all_goals refine qP ?_
    all_goals refine qE ?_)
  all_goals first
  | fail_if_success with_reducible refine atR 2 ?_
  | (
    refine rg 2 [] [some 6, some 7, some 8, none] 4 ?_
    all_goals iterate 4 refine qP ?_
    all_goals refine qE ?_)
  all_goals first
  | fail_if_success with_reducible refine atR 3 ?_
  | (
    refine rg 3 [] [some 9, some 10, some 11, none] 4 ?_
    all_goals iterate 4 refine qP ?_
    all_goals refine qE ?_)
  all_goals first
  | fail_if_success with_reducible refine atR 4 ?_
  | (
    refine rg 4 [] [some 12, some 13, some 14, none] 4 ?_
    all_goals iterate 4 refine qP ?_
    all_goals refine qE ?_)
  all_goals first
  | fail_if_success with_reducible refine atR 5 ?_
  | (
    refine rg 5 [] [some 15, some 16, some 17, some 18, some 19, none] 6 ?_
    all_goals iterate 3 refine qP ?_
    all_goals (
      refine qL_cons ?_
      intro R hR
      refine sm ?_
      refine call_row (toStringR v.yes hv) [] ?_ (.inl rfl) ?_
      · exact ⟨.inl rfl, ⟨.inl rfl, trivial⟩⟩
      refine sm ?_
      all_goals (refine hR _ ?_; clear hR R))
    all_goals iterate 2 refine qP ?_
    all_goals refine qE ?_)
  all_goals first
  | fail_if_success with_reducible refine atR 6 ?_
  | (
    refine rg 6 [] [some 20, none] 2 ?_
    all_goals iterate 2 refine qP ?_
    all_goals refine qE ?_)
  all_goals exact ret_row [.ag [.d (.str v.br), .d (.str v.into), .d (.str v.by_), .vec 0 1 0 v.yes.length]] (Vw.to (g' := 3) [(0, 19), (1, 2)] [(4, .bx 1 0)] [(0, .vec 9 1 ((rowS v.yes).map sS)), (1, .box 27 [.d (.str v.br), .d (.str v.into), .d (.str v.by_), .vec 0 1 0 v.yes.length])] (fun n hn => absurd (hU n hn) (by omega)) (vx trivial) ⟨⟨by omega, rfl, cl3⟩, ⟨by omega, rfl, cl3⟩, trivial⟩ (by simp [tauL])) cl ⟨cl, trivial⟩ rfl rfl

end
section
attribute [local go_sem] tsz9 tsz22 tsz27 tfld27 tel22 toNat_cast und9
theorem eqReview_spec (v w : Rv) : Fun Try.prog 27 [.ag [.d (.str v.br), .d (.str v.into), .d (.str v.by_), .d (strs v.yes)], .ag [.d (.str w.br), .d (.str w.into), .d (.str w.by_), .d (strs w.yes)]] (.d (.bool (decide (v.br = w.br ∧ v.into = w.into ∧ v.by_ = w.by_ ∧ v.yes = w.yes)))) := by
  refine Fun.of ?_ rfl rfl
  refine Spec.of (fn := Try.f27) Try.func27 rfl (by kernel_rfl) (rs := [.tmp 4]) rfl 1 (by simp [Try.f27]) rfl (by simp) ?_
  intro hreal
  rintro ⟨P, T, L0, w0, ι0, C0, U0⟩ hP hT hU
  subst hP hT
  refine st ?_
  all_goals first
  | fail_if_success with_reducible refine atR 0 ?_
  | (
    refine rg 0 [] [some 2, some 3, some 4] 3 ?_
    all_goals iterate 3 refine qP ?_
    all_goals refine qE ?_)
  all_goals first
  | fail_if_success with_reducible refine atR 1 ?_
  | (
    refine rg 1 [] [some 5, some 6, some 7, some 8, some 9] 5 ?_
    all_goals iterate 5 refine qP ?_
    all_goals refine qE ?_)
  all_goals first
  | fail_if_success with_reducible refine atC 9 ?_
  | (
    refine cn 9 ?_ ?_ <;> intro hc9 <;> try (cases hc9; done)
    all_goals refine st ?_)
  all_goals first
  | fail_if_success with_reducible refine atR 2 ?_
  | (
    refine rg 2 [] [some 4] 1 ?_
    all_goals refine qP ?_
    all_goals refine qE ?_)
  all_goals first
  | fail_if_success with_reducible refine atR 3 ?_
  | (
    refine rg 3 [] [some 10, some 11, some 12, some 13, some 14] 5 ?_
    all_goals iterate 5 refine qP ?_
    all_goals refine qE ?_)
  all_goals first
  | fail_if_success with_reducible refine atC 14 ?_
  | (
    refine cn 14 ?_ ?_ <;> intro hc14 <;> try (cases hc14; done)
    all_goals refine st ?_)
  all_goals first
  | fail_if_success with_reducible refine atR 4 ?_
  | (
    refine rg 4 [] [some 4] 1 ?_
    all_goals refine qP ?_
    all_goals refine qE ?_)
  all_goals first
  | fail_if_success with_reducible refine atR 5 ?_
  | (
    refine rg 5 [] [some 15, some 16, some 17, some 18, some 19] 5 ?_
    all_goals iterate 5 refine qP ?_
    all_goals refine qE ?_)
  all_goals first
  | fail_if_success with_reducible refine atC 19 ?_
  | (
    refine cn 19 ?_ ?_ <;> intro hc19 <;> try (cases hc19; done)
    all_goals refine st ?_)
  all_goals first
  | fail_if_success with_reducible refine atR 6 ?_
  | (
    refine rg 6 [] [some 4] 1 ?_
    all_goals refine qP ?_
    all_goals refine qE ?_)
  all_goals first
  | fail_if_success with_reducible refine atR 7 ?_
  | (
    refine rg 7 [] [some 20, some 21, some 22, some 23, some 24, some 25] 6 ?_
    all_goals iterate 4 refine qP ?_
    all_goals (
      refine qL_cons ?_
      intro R hR
      refine sm ?_
      refine call_fun (eqStringS_spec v.yes w.yes) [] ?_ (.inl rfl) ?_
      · exact ⟨.inl rfl, ⟨.inl rfl, trivial⟩⟩
      refine sm ?_
      all_goals (refine hR _ ?_; clear hR R))
    all_goals refine qP ?_
    all_goals refine qE ?_)
  all_goals first
  | fail_if_success with_reducible refine atC 25 ?_
  | (
    refine cn 25 ?_ ?_ <;> intro hc25 <;> try (cases hc25; done)
    all_goals refine st ?_)
  all_goals first
  | fail_if_success with_reducible refine atR 8 ?_
  | (
    refine rg 8 [] [some 4] 1 ?_
    all_goals refine qP ?_
    all_goals refine qE ?_)
  all_goals first
  | fail_if_success with_reducible refine atR 9 ?_
  | (
    refine rg 9 [] [some 4] 1 ?_
    all_goals refine qP ?_
    all_goals refine qE ?_)
  all_goals first
  | fail_if_success with_reducible refine ret_fun (t := 4) ?_ ?_
  | (
    refine ret_fun (t := 4) ?_ (fun _ => rfl)
    first
    | exact cl
    | (
      try refine sm ?_
      all_goals (
       (congr 2; simp_all; done))))

end
end Go.Proofs.Ytmlbdicaeefomaa
