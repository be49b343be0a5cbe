/- marks, and that they are held. No condition. -/
import Derived.Test.YtmlbdicaeefomaaE36
import Derived.Test.YtmlbdicaeefomaaAxG
namespace Go.Proofs.Ytmlbdicaeefomaa
open Go Go.RowKit
set_option maxRecDepth 100000
set_option maxHeartbeats 1000000
set_option linter.unusedSimpArgs false
set_option linter.unusedVariables false
theorem und9' : Try.prog.underlying 9 = some .string := und9
theorem tel31 : telem Try.prog 31 = some (5, 1, 1) := by kernel_rfl
theorem und5 : Try.prog.underlying 5 = some (.int .u8) := by kernel_rfl
theorem und3 : Try.prog.underlying 3 = some (.int .i64) := by kernel_rfl
theorem tz5 : (tzero Try.prog 5).isSome = true := by kernel_rfl
theorem wrap8 {n : Int} (h1 : 0 ≤ n) (h2 : n ≤ 255) : IntKind.u8.wrap n = n := fits_u8 h1 h2
/-- A digit; the mark of a number. -/
def dgt (n : Nat) : ByteArray := strOfNums [((48 + n % 10 : Nat) : Int)]
theorem dgt_size (n : Nat) : (dgt n).size = 1 := by simp [dgt, strOfNums, ByteArray.size]
def mkD (n : Nat) (out : ByteArray) : ByteArray := if h : n = 0 then ⟨#[109]⟩ ++ out else mkD (n / 10) (dgt n ++ out)
termination_by n
decreasing_by omega
def mkT (k : Nat) : ByteArray := mkD k ByteArray.empty
theorem mkD_z (out : ByteArray) : mkD 0 out = ⟨#[109]⟩ ++ out := by unfold mkD; simp
theorem mkD_s {n : Nat} (h : n ≠ 0) (out : ByteArray) : mkD n out = mkD (n / 10) (dgt n ++ out) := by
  rw [mkD]; simp [h]
theorem tmod10 (n : Nat) : (n : Int).tmod 10 = ((n % 10 : Nat) : Int) := rfl
theorem tdiv10 (n : Nat) : (n : Int).tdiv 10 = ((n / 10 : Nat) : Int) := rfl
theorem size_app (a b : ByteArray) : (a ++ b).size = a.size + b.size := ByteArray.size_append
attribute [local go_sem] List.size_toArray Int.toNat_zero Nat.sub_zero size_mk top_val eq_self datL X.dat u8min u8max i64min i64max stepT gdO aop ev lit litOk putF fzX_false putO upd app List.contains_nil List.elem_nil aBin aInt aStr aBool aLen lenTy aBuiltin aLoad aTake aTakeX aStore splice aSlice aBd look_cons look_nil lookC_cons lookC_nil by_s by_C start_s start_C X.cells X.cell List.all_cons List.all_nil Bool.and_self Bool.not_true Bool.not_false false_implies true_implies forall_const and_true true_and and_self implies_true not_false_eq_true Nat.zero_add Nat.add_zero List.getD_cons_zero List.getD_cons_succ List.map_cons List.map_nil Option.bind_some Option.map_some Option.map_none List.getElem?_cons_zero List.getElem?_cons_succ List.length_cons List.length_nil List.drop_zero List.drop_succ_cons List.take_succ_cons List.take_zero List.cons_append List.nil_append List.append_nil D.of List.length_map all_get_map Option.isSome_some and_false false_and Nat.lt_add_one Nat.zero_lt_succ decide_true decide_false fzX litEs List.contains_cons List.elem_cons Bool.true_or Bool.or_true Bool.false_or Bool.or_false beq_self_eq_true
section
attribute [local go_sem] tsz9 tel31 und9 und5 und3 tz5 toNat_cast nums8 tmod10 tdiv10
theorem markText_spec (k : Nat) (hk : 0 < k) (hk2 : k ≤ 2000000) : Fun Try.prog 83 [.d (.int .i64 k)] (.d (.str (mkT k))) := by
  refine Fun.of ?_ rfl rfl
  refine Spec.of (fn := Try.f83) Try.func83 rfl (by kernel_rfl) (rs := [.tmp 2]) rfl 1 (by simp [Try.f83]) rfl (by simp) ?_
  intro hreal
  rintro ⟨P, T, L0, w0, ι0, C0, U0⟩ hP hT hU
  subst hP hT
  refine st ?_
  all_goals first
  | fail_if_success with_reducible refine atR 0 ?_
  | (
    refine rg 0 [] [some 2] 1 ?_
    all_goals refine qP ?_
    all_goals refine qE ?_)
  all_goals first
  | fail_if_success with_reducible refine atR 1 ?_
  | (
    refine rg 1 [] [some 4, some 5] 2 ?_
    all_goals iterate 2 refine qP ?_
    all_goals refine qE ?_)
  all_goals first
  | fail_if_success with_reducible refine atC 5 ?_
  | (
    refine cn 5 ?_ ?_ <;> intro hc5 <;> try (cases hc5; done)
    all_goals refine st ?_)
  all_goals first
  | fail_if_success with_reducible refine atR 2 ?_
  | (
    refine rg 2 [] [some 2] 1 ?_
    all_goals refine qP ?_
    all_goals refine qE ?_)
  all_goals first
  | fail_if_success with_reducible refine atR 3 ?_
  | (
    refine rg 3 [] [some 3] 1 ?_
    all_goals refine qP ?_
    all_goals refine qE ?_)
  all_goals first
  | fail_if_success with_reducible refine AW.rounds (α := (Nat × ByteArray)) ?_ ?_ ?_ ?_ ?_ ?_ ?_ ?_
  | (
    refine AW.rounds (α := (Nat × ByteArray)) (fun z => z.1 ≤ k ∧ z.2.size + z.1 ≤ k ∧ mkD z.1 z.2 = mkT k) (fun z => St.by [(0, .d (.int .i64 z.1)), (3, .d (.str z.2))] []) (fun z => z.1) 1 (k, ByteArray.empty) ?_ ?_ ?_
    · exact ⟨Nat.le_refl _, by simp, rfl⟩
    · refine Vw.to [] _ _ (vU hU) ?_ ?_ (by simp [tauL])
      · refine vd (vw_d ?_ (trivial))
        · first
          | exact cl2
          | (
            refine sm2 ?_
            all_goals (
             rfl))
      · trivial
    · intro z hJ
      refine st ?_
      obtain ⟨hJ1, hJ2, hJ3⟩ := hJ
      all_goals first
      | fail_if_success with_reducible refine atR 4 ?_
      | (
        refine rg 4 [] [some 6, some 7] 2 ?_
        all_goals iterate 2 refine qP ?_
        all_goals refine qE ?_)
      all_goals first
      | fail_if_success with_reducible refine atC 7 ?_
      | (
        refine cn 7 ?_ ?_ <;> intro hc7 <;> try (cases hc7; done)
        all_goals refine st ?_)
      all_goals first
      | fail_if_success with_reducible refine atR 5 ?_
      | (
        refine rg 5 [4] [some 8, some 9, some 10, some 11, some 12, some 13, some 14, some 15, some 3] 9 ?_
        all_goals refine qP ?_
        all_goals (
          refine qL_cons ?_
          intro R hR
          refine sm ?_
          rw [wrap64 (by omega) (by omega)]
          all_goals (refine hR _ ?_; clear hR R))
        all_goals (
          refine qL_cons ?_
          intro R hR
          refine sm ?_
          rw [wrap64 (by omega) (by omega)]
          all_goals (refine hR _ ?_; clear hR R))
        all_goals (
          refine qL_cons ?_
          intro R hR
          refine sm ?_
          rw [wrap8 (by omega) (by omega)]
          all_goals (refine hR _ ?_; clear hR R))
        all_goals refine qP ?_
        all_goals (
          refine qL_cons ?_
          intro R hR
          refine sm ?_
          refine ⟨by simp, ?_⟩
          rw [show strOfNums [48 + ((z.1 % 10 : Nat) : Int)] = dgt z.1 from by simp [dgt]]
          all_goals (refine hR _ ?_; clear hR R))
        all_goals refine qP ?_
        all_goals (
          refine qL_cons ?_
          intro R hR
          refine sm ?_
          refine ⟨by rw [dgt_size]; omega, ?_⟩
          all_goals (refine hR _ ?_; clear hR R))
        all_goals refine qP ?_
        all_goals refine qE ?_)
      all_goals first
      | fail_if_success with_reducible refine atR 6 ?_
      | (
        refine rg 6 [] [some 16, some 17, some 0] 3 ?_
        all_goals refine qP ?_
        all_goals (
          refine qL_cons ?_
          intro R hR
          refine sm ?_
          rw [wrap64 (by omega) (by omega)]
          all_goals (refine hR _ ?_; clear hR R))
        all_goals refine qP ?_
        all_goals refine qE ?_)
      all_goals first
      | fail_if_success with_reducible refine ⟨(z.1 / 10, dgt z.1 ++ z.2), ?_, ?_, ?_⟩
      | (
        refine ⟨(z.1 / 10, dgt z.1 ++ z.2), ?_, ?_, ?_⟩
        · refine ⟨by simp only; omega, ?_, ?_⟩
          · simp only [size_app, dgt_size]; omega
          · rw [← hJ3]; exact (mkD_s (by omega) _).symm
        · simp only; omega
        · refine Vw.to [] _ _ (vU hU) ?_ ?_ (by simp [tauL])
          · refine vw_d ?_ (vw_d ?_ (trivial))
            · first
              | exact cl2
              | (
                refine sm2 ?_
                all_goals (
                 rfl))
            · first
              | exact cl2
              | (
                refine sm2 ?_
                all_goals (
                 rfl))
          · trivial)
      all_goals first
      | fail_if_success with_reducible refine atR 7 ?_
      | (
        refine rg 7 [] [some 18, some 19, some 2] 3 ?_
        all_goals refine qP ?_
        all_goals (
          refine qL_cons ?_
          intro R hR
          refine sm ?_
          refine ⟨by first | omega | (simp; omega), ?_⟩
          all_goals (refine hR _ ?_; clear hR R))
        all_goals refine qP ?_
        all_goals refine qE ?_)
      all_goals first
      | fail_if_success with_reducible refine ret_fun (t := 2) ?_ ?_
      | (
        refine ret_fun (t := 2) ?_ (fun _ => rfl)
        first
        | exact cl
        | (
          try refine sm ?_
          all_goals (
           first
           | (congr 2; rw [← hJ3, show z.1 = 0 by omega, mkD_z]; done)
           | omega))))
  all_goals first
  | fail_if_success with_reducible refine ret_fun (t := 2) ?_ ?_
  | (
    refine ret_fun (t := 2) ?_ (fun _ => rfl)
    first
    | exact cl
    | (
      try refine sm ?_
      all_goals (
       first
       | (congr 2; rw [← hJ3, show z.1 = 0 by omega, mkD_z]; done)
       | omega)))

/-- The first n strings, marked from k on. -/
def mkL (n k : Nat) (es : List ByteArray) : List ByteArray := (List.range n).map (fun i => mkT (k + i)) ++ es.drop n
theorem mkL_eq {n k : Nat} {es l : List ByteArray} (hn : n ≤ es.length) (h1 : l.length = es.length) (h2 : ∀ j, j < n → l[j]? = some (mkT (k + j))) (h3 : ∀ j, n ≤ j → l[j]? = es[j]?) : l = mkL n k es := by
  apply List.ext_getElem?
  intro j
  unfold mkL
  by_cases hj : j < n
  · rw [h2 j hj, List.getElem?_append_left (by simpa using hj)]
    simp [hj]
  · rw [h3 j (by omega), List.getElem?_append_right (by simp; omega), List.getElem?_drop]
    simp
    rw [show n + (j - n) = j by omega]
def mkR (n k : Nat) (es : List ByteArray) : X → Cap → Prop := fun x c' => x = .d (.int .i64 ((k + n : Nat) : Int)) ∧ c' = .vec 9 1 ((mkL n k es).map sS)
theorem mkR_on {n k : Nat} {es : List ByteArray} : ∀ x c', mkR n k es x c' → x.on (fun _ => false) = true ∧ c'.on (fun _ => false) = true := by
  rintro x c' ⟨rfl, rfl⟩; exact ⟨rfl, rfl⟩
theorem mkR_ne (n k : Nat) (es : List ByteArray) : ∃ x c', mkR n k es x c' := ⟨_, _, rfl, rfl⟩
end
section
attribute [local go_sem] tsz9 tsz22 tel22 toNat_cast und9 caps1 sS
theorem markS_spec (es : List ByteArray) (n k : Nat) (hn : n ≤ es.length) (hk : 0 < k) (hk2 : k + n ≤ 2000000) : Spec Try.prog 63 [.vec 0 1 0 n, .d (.int .i64 k)] [(0, .vec 9 1 (es.map sS))] 1 (fun x δ => ∃ c', δ = [(0, some c')] ∧ mkR n k es x c') := by
  refine Spec.of (fn := Try.f63) Try.func63 rfl (by kernel_rfl) (rs := [.tmp 4]) rfl 2 (by simp [Try.f63]) rfl (by simp [Cap.on, X.onL, X.on]) ?_
  intro hreal
  rintro ⟨P, T, L0, w0, ι0, C0, U0⟩ hP hT hU
  subst hP hT
  refine st ?_
  all_goals first
  | fail_if_success with_reducible refine atR 0 ?_
  | (
    refine rg 0 [] [some 4] 1 ?_
    all_goals refine qP ?_
    all_goals refine qE ?_)
  all_goals first
  | fail_if_success with_reducible refine atR 1 ?_
  | (
    refine rg 1 [] [some 5] 1 ?_
    all_goals refine qP ?_
    all_goals refine qE ?_)
  all_goals first
  | fail_if_success with_reducible refine AW.rounds (α := (Nat × List ByteArray)) ?_ ?_ ?_ ?_ ?_ ?_ ?_ ?_
  | (
    refine AW.rounds (α := (Nat × List ByteArray)) (fun z => z.1 ≤ n ∧ z.2.length = es.length ∧ (∀ j, j < z.1 → z.2[j]? = some (mkT (k + j))) ∧ (∀ j, z.1 ≤ j → z.2[j]? = es[j]?)) (fun z => St.by [(0, .vec 0 1 0 n), (1, .d (.int .i64 ((k + z.1 : Nat) : Int))), (5, .d (.int .i64 z.1))] [(0, .vec 9 1 (z.2.map sS))]) (fun z => n - z.1) 2 (0, es) ?_ ?_ ?_
    · exact ⟨by simp, rfl, fun j hj => by simp at hj, fun j _ => rfl⟩
    · refine Vw.to [] _ _ (vU hU) ?_ ?_ (by simp [tauL])
      · refine vx (vw_d ?_ (vw_d ?_ (trivial)))
        · first
          | exact cl2
          | (
            refine sm2 ?_
            all_goals (
             rfl))
        · first
          | exact cl2
          | (
            refine sm2 ?_
            all_goals (
             rfl))
      · exact ⟨⟨by simp, rfl, cl3⟩, trivial⟩
    · intro z hJ
      refine st ?_
      obtain ⟨hJ1, hJ2, hJ3, hJ4⟩ := hJ
      all_goals first
      | fail_if_success with_reducible refine atR 2 ?_
      | (
        refine rg 2 [] [some 6, some 7, some 8, some 9] 4 ?_
        all_goals iterate 4 refine qP ?_
        all_goals refine qE ?_)
      all_goals first
      | fail_if_success with_reducible refine atC 9 ?_
      | (
        refine cn 9 ?_ ?_ <;> intro hc9 <;> try (cases hc9; done)
        all_goals refine st ?_)
      all_goals first
      | fail_if_success with_reducible refine atR 4 ?_
      | (
        refine rg 4 [] [some 12, some 13, some 14, some 15, some 16, none] 6 ?_
        all_goals iterate 3 refine qP ?_
        all_goals (
          refine qL_cons ?_
          intro R hR
          refine sm ?_
          refine call_fun (markText_spec (k + z.1) (by omega) (by omega)) [] ?_ (.inl rfl) ?_
          · exact ⟨.inl rfl, trivial⟩
          refine sm ?_
          all_goals (refine hR _ ?_; clear hR R))
        all_goals refine qP ?_
        all_goals (
          refine qL_cons ?_
          intro R hR
          refine sm ?_
          refine ⟨by omega, ?_⟩
          intro x7 hx7
          all_goals (refine hR _ ?_; clear hR R))
        all_goals refine qE ?_)
      all_goals first
      | fail_if_success with_reducible refine atR 5 ?_
      | (
        refine rg 5 [] [some 17, some 18, some 1] 3 ?_
        all_goals refine qP ?_
        all_goals (
          refine qL_cons ?_
          intro R hR
          refine sm ?_
          rw [wrap64 (by omega) (by omega)]
          all_goals (refine hR _ ?_; clear hR R))
        all_goals refine qP ?_
        all_goals refine qE ?_)
      all_goals first
      | fail_if_success with_reducible refine atR 3 ?_
      | (
        refine rg 3 [] [some 10, some 11, some 5] 3 ?_
        all_goals refine qP ?_
        all_goals (
          refine qL_cons ?_
          intro R hR
          refine sm ?_
          rw [wrap64 (by omega) (by omega)]
          all_goals (refine hR _ ?_; clear hR R))
        all_goals refine qP ?_
        all_goals refine qE ?_)
      all_goals first
      | fail_if_success with_reducible refine ⟨(z.1 + 1, z.2.set z.1 (mkT (k + z.1))), ?_, ?_, ?_⟩
      | (
        refine ⟨(z.1 + 1, z.2.set z.1 (mkT (k + z.1))), ?_, ?_, ?_⟩
        · refine ⟨by simp only; omega, by simp only [List.length_set]; omega, fun j hj => ?_, fun j hj => ?_⟩
          · simp only at hj ⊢
            by_cases hjp : j = z.1
            · subst hjp; rw [List.getElem?_set_self (by omega)]
            · rw [List.getElem?_set_ne (Ne.symm hjp)]; exact hJ3 j (by omega)
          · simp only at hj ⊢
            rw [List.getElem?_set_ne (by omega)]; exact hJ4 j (by omega)
        · simp only; omega
        · refine Vw.to [] _ _ (vU hU) ?_ ?_ (by simp [tauL])
          · refine vx (vw_d ?_ (vw_d ?_ (trivial)))
            · first
              | exact cl2
              | (
                refine sm2 ?_
                all_goals (
                 congr 1))
            · first
              | exact cl2
              | (
                refine sm2 ?_
                all_goals (
                 congr 1))
          · refine ⟨⟨by simp, rfl, ?_⟩, trivial⟩
            refine sm3 ?_
            simp [List.map_set, sS])
      all_goals first
      | fail_if_success with_reducible refine atR 6 ?_
      | (
        refine rg 6 [] [some 19, some 4] 2 ?_
        all_goals iterate 2 refine qP ?_
        all_goals refine qE ?_)
      all_goals (
        have hz : z.1 = n := by omega
        have hl : z.2 = mkL n k es := mkL_eq hn hJ2 (fun j hj => hJ3 j (by omega)) (fun j hj => hJ4 j (by omega))
        refine ret_box (c1 := .vec 9 1 (z.2.map sS)) [.d (.int .i64 ((k + z.1 : Nat) : Int))] ⟨cl, trivial⟩ (fun _ => rfl) cl rfl ⟨by rw [← hz]; rfl, by rw [hl]⟩))
  all_goals (
    have hz : z.1 = n := by omega
    have hl : z.2 = mkL n k es := mkL_eq hn hJ2 (fun j hj => hJ3 j (by omega)) (fun j hj => hJ4 j (by omega))
    refine ret_box (c1 := .vec 9 1 (z.2.map sS)) [.d (.int .i64 ((k + z.1 : Nat) : Int))] ⟨cl, trivial⟩ (fun _ => rfl) cl rfl ⟨by rw [← hz]; rfl, by rw [hl]⟩)

end
section
attribute [local go_sem] tsz9 tsz22 tel22 toNat_cast und9 sS
theorem markS_nil (k : Nat) : Fun Try.prog 63 [.d (strs []), .d (.int .i64 k)] (.d (.int .i64 k)) := by
  refine Fun.of ?_ rfl rfl
  refine Spec.of (fn := Try.f63) Try.func63 rfl (by kernel_rfl) (rs := [.tmp 4]) rfl 1 (by simp [Try.f63]) rfl (by simp) ?_
  intro hreal
  rintro ⟨P, T, L0, w0, ι0, C0, U0⟩ hP hT hU
  subst hP hT
  refine st ?_
  all_goals first
  | fail_if_success with_reducible refine atR 0 ?_
  | (
    refine rg 0 [] [some 4] 1 ?_
    all_goals refine qP ?_
    all_goals refine qE ?_)
  all_goals first
  | fail_if_success with_reducible refine atR 1 ?_
  | (
    refine rg 1 [] [some 5] 1 ?_
    all_goals refine qP ?_
    all_goals refine qE ?_)
  all_goals first
  | fail_if_success with_reducible refine AW.rounds (α := Nat) ?_ ?_ ?_ ?_ ?_ ?_ ?_ ?_
  | (
    refine AW.rounds (α := Nat) (fun z => True) (fun z => St.by [(0, .d (strs [])), (1, .d (.int .i64 k)), (5, .d (.int .i64 0))] []) (fun z => z) 1 0 ?_ ?_ ?_
    · trivial
    · refine Vw.to [] _ _ (vU hU) ?_ ?_ (by simp [tauL])
      · refine vd (vd (vw_d ?_ (trivial)))
        · first
          | exact cl2
          | (
            refine sm2 ?_
            all_goals (
             rfl))
      · trivial
    · intro z hJ
      refine st ?_
      all_goals first
      | fail_if_success with_reducible refine atR 2 ?_
      | (
        refine rg 2 [] [some 6, some 7, some 8, some 9] 4 ?_
        all_goals iterate 4 refine qP ?_
        all_goals refine qE ?_)
      all_goals first
      | fail_if_success with_reducible refine atC 9 ?_
      | (
        refine cn 9 ?_ ?_ <;> intro hc9 <;> try (cases hc9; done)
        all_goals refine st ?_)
      all_goals try (simp at hc9; done)
      all_goals first
      | fail_if_success with_reducible refine atR 4 ?_
      | (
        refine rg 4 [] [some 12, some 13, some 14, some 15, some 16, none] 6 ?_
        all_goals iterate 3 refine qP ?_
        all_goals (
          refine qL_cons ?_
          intro R hR
          exfalso; simp_all
          all_goals (refine hR _ ?_; clear hR R))
        all_goals (
          refine qL_cons ?_
          intro R hR
          exfalso; simp_all
          all_goals (refine hR _ ?_; clear hR R))
        all_goals refine qP ?_
        all_goals refine qE ?_)
      all_goals first
      | fail_if_success with_reducible refine atR 5 ?_
      | (
        refine rg 5 [] [some 17, some 18, some 1] 3 ?_
        all_goals iterate 3 refine qP ?_
        all_goals refine qE ?_)
      all_goals first
      | fail_if_success with_reducible refine atR 3 ?_
      | (
        refine rg 3 [] [some 10, some 11, some 5] 3 ?_
        all_goals refine qP ?_
        all_goals (
          refine qL_cons ?_
          intro R hR
          refine sm ?_
          skip
          all_goals (refine hR _ ?_; clear hR R))
        all_goals refine qP ?_
        all_goals refine qE ?_)
      all_goals try (exfalso; omega)
      all_goals first
      | fail_if_success with_reducible refine atR 6 ?_
      | (
        refine rg 6 [] [some 19, some 4] 2 ?_
        all_goals iterate 2 refine qP ?_
        all_goals refine qE ?_)
      all_goals first
      | fail_if_success with_reducible refine ret_fun (t := 4) ?_ ?_
      | (
        refine ret_fun (t := 4) ?_ (fun _ => rfl)
        first
        | exact cl
        | (
          try refine sm ?_
          all_goals (
           rfl))))
  all_goals first
  | fail_if_success with_reducible refine ret_fun (t := 4) ?_ ?_
  | (
    refine ret_fun (t := 4) ?_ (fun _ => rfl)
    first
    | exact cl
    | (
      try refine sm ?_
      all_goals (
       rfl)))

end
section
attribute [local go_sem] tsz9 tsz22 tsz27 tfld27 tel22 toNat_cast und9 caps1
theorem markR_spec (a b c : ByteArray) (es : List ByteArray) (n k : Nat) (hn : n ≤ es.length) (hk : 0 < k) (hk2 : k + n ≤ 2000000) : Spec Try.prog 28 [.ag [.d (.str a), .d (.str b), .d (.str c), .vec 0 1 0 n], .d (.int .i64 k)] [(0, .vec 9 1 (es.map sS))] 1 (fun x δ => ∃ c', δ = [(0, some c')] ∧ mkR n k es x c') := by
  refine Spec.of (fn := Try.f28) Try.func28 rfl (by kernel_rfl) (rs := [.tmp 4]) rfl 2 (by simp [Try.f28]) rfl (by simp [Cap.on, X.onL, X.on]) ?_
  intro hreal
  rintro ⟨P, T, L0, w0, ι0, C0, U0⟩ hP hT hU
  subst hP hT
  refine st ?_
  all_goals first
  | fail_if_success with_reducible refine atR 0 ?_
  | (
    refine rg 0 [] [some 2, some 4] 2 ?_
    all_goals iterate 2 refine qP ?_
    all_goals refine qE ?_)
  all_goals first
  | fail_if_success with_reducible refine atR 1 ?_
  | (
    refine rg 1 [] [some 5, some 6, some 7, some 8, some 1] 5 ?_
    all_goals iterate 3 refine qP ?_
    all_goals (
      refine qL_cons ?_
      intro R hR
      refine sm ?_
      refine call_own (markS_spec es n k hn hk hk2) rfl rfl mkR_on (mkR_ne _ _ _) (a := 0) (by decide) rfl cl trivial (fun h => h) ?_ ?_
      · exact ⟨.inl rfl, .inl rfl, trivial⟩
      rintro _ _ ⟨rfl, rfl⟩
      refine sm ?_
      all_goals (refine hR _ ?_; clear hR R))
    all_goals refine qP ?_
    all_goals refine qE ?_)
  all_goals first
  | fail_if_success with_reducible refine atR 2 ?_
  | (
    refine rg 2 [] [some 9, some 4] 2 ?_
    all_goals iterate 2 refine qP ?_
    all_goals refine qE ?_)
  all_goals exact ret_box (c1 := .vec 9 1 ((mkL n k es).map sS)) [.d (.int .i64 ((k + n : Nat) : Int))] ⟨cl, trivial⟩ (fun _ => rfl) cl rfl ⟨rfl, rfl⟩

end
section
attribute [local go_sem] tsz9 tsz22 tsz27 tfld27 tel22 toNat_cast und9
theorem markR_nil (a b c : ByteArray) (k : Nat) : Fun Try.prog 28 [.ag [.d (.str a), .d (.str b), .d (.str c), .d (strs [])], .d (.int .i64 k)] (.d (.int .i64 k)) := by
  refine Fun.of ?_ rfl rfl
  refine Spec.of (fn := Try.f28) Try.func28 rfl (by kernel_rfl) (rs := [.tmp 4]) rfl 1 (by simp [Try.f28]) rfl (by simp) ?_
  intro hreal
  rintro ⟨P, T, L0, w0, ι0, C0, U0⟩ hP hT hU
  subst hP hT
  refine st ?_
  all_goals first
  | fail_if_success with_reducible refine atR 0 ?_
  | (
    refine rg 0 [] [some 2, some 4] 2 ?_
    all_goals iterate 2 refine qP ?_
    all_goals refine qE ?_)
  all_goals first
  | fail_if_success with_reducible refine atR 1 ?_
  | (
    refine rg 1 [] [some 5, some 6, some 7, some 8, some 1] 5 ?_
    all_goals iterate 3 refine qP ?_
    all_goals (
      refine qL_cons ?_
      intro R hR
      refine sm ?_
      refine call_fun (markS_nil k) [] ?_ (.inl rfl) ?_
      · exact ⟨.inl rfl, ⟨.inl rfl, trivial⟩⟩
      refine sm ?_
      all_goals (refine hR _ ?_; clear hR R))
    all_goals refine qP ?_
    all_goals refine qE ?_)
  all_goals first
  | fail_if_success with_reducible refine atR 2 ?_
  | (
    refine rg 2 [] [some 9, some 4] 2 ?_
    all_goals iterate 2 refine qP ?_
    all_goals refine qE ?_)
  all_goals first
  | fail_if_success with_reducible refine ret_fun (t := 4) ?_ ?_
  | (
    refine ret_fun (t := 4) ?_ (fun _ => rfl)
    first
    | exact cl
    | (
      try refine sm ?_
      all_goals (
       rfl)))

end
section
attribute [local go_sem] tsz9 tsz22 tel22 toNat_cast und9 sS
theorem heldS_spec (ss : List ByteArray) (k : Nat) (hk : 0 < k) (hk2 : k + ss.length ≤ 2000000) (h : ∀ (j : Nat) y, ss[j]? = some y → y = mkT (k + j)) : Fun Try.prog 64 [.d (strs ss), .d (.int .i64 k)] (.d (.int .i64 ((k + ss.length : Nat) : Int))) := by
  refine Fun.of ?_ rfl rfl
  refine Spec.of (fn := Try.f64) Try.func64 rfl (by kernel_rfl) (rs := [.tmp 4]) rfl 1 (by simp [Try.f64]) rfl (by simp) ?_
  intro hreal
  rintro ⟨P, T, L0, w0, ι0, C0, U0⟩ hP hT hU
  subst hP hT
  refine st ?_
  all_goals first
  | fail_if_success with_reducible refine atR 0 ?_
  | (
    refine rg 0 [] [some 4] 1 ?_
    all_goals refine qP ?_
    all_goals refine qE ?_)
  all_goals first
  | fail_if_success with_reducible refine atR 1 ?_
  | (
    refine rg 1 [] [some 5] 1 ?_
    all_goals refine qP ?_
    all_goals refine qE ?_)
  all_goals first
  | fail_if_success with_reducible refine AW.rounds (α := Nat) ?_ ?_ ?_ ?_ ?_ ?_ ?_ ?_
  | (
    refine AW.rounds (α := Nat) (fun i => i ≤ ss.length) (fun i => St.by [(0, .d (strs ss)), (1, .d (.int .i64 ((k + i : Nat) : Int))), (5, .d (.int .i64 i))] []) (fun i => ss.length - i) 1 0 ?_ ?_ ?_
    · omega
    · refine Vw.to [] _ _ (vU hU) ?_ ?_ (by simp [tauL])
      · refine vd (vw_d ?_ (vw_d ?_ (trivial)))
        · first
          | exact cl2
          | (
            refine sm2 ?_
            all_goals (
             rfl))
        · first
          | exact cl2
          | (
            refine sm2 ?_
            all_goals (
             rfl))
      · trivial
    · intro i hJ
      refine st ?_
      all_goals first
      | fail_if_success with_reducible refine atR 2 ?_
      | (
        refine rg 2 [] [some 6, some 7, some 8, some 9] 4 ?_
        all_goals iterate 4 refine qP ?_
        all_goals refine qE ?_)
      all_goals first
      | fail_if_success with_reducible refine atC 9 ?_
      | (
        refine cn 9 ?_ ?_ <;> intro hc9 <;> try (cases hc9; done)
        all_goals refine st ?_)
      all_goals first
      | fail_if_success with_reducible refine atR 4 ?_
      | (
        refine rgD 4 [] [some 12, some 13, some 14, some 15, some 16, some 17, some 18] 7 8 ?_
        intro av hav
        all_goals iterate 2 refine qP ?_
        all_goals (
          refine qL_cons ?_
          intro R hR
          refine sm ?_
          refine ⟨⟨by omega, by omega⟩, ?_⟩
          intro y hy
          all_goals (refine hR _ ?_; clear hR R))
        all_goals iterate 2 refine qP ?_
        all_goals (
          refine qL_cons ?_
          intro R hR
          refine sm ?_
          refine call_fun (markText_spec (k + i) (by omega) (by omega)) [] ?_ (.inl rfl) ?_
          · exact ⟨.inl rfl, trivial⟩
          refine sm ?_
          all_goals (refine hR _ ?_; clear hR R))
        all_goals refine qP ?_
        all_goals refine qE ?_
        all_goals clear  hav av)
      all_goals first
      | fail_if_success with_reducible refine atC 18 ?_
      | (
        refine cn 18 ?_ ?_ <;> intro hc18 <;> try (cases hc18; done)
        all_goals refine st ?_)
      all_goals first
      | fail_if_success with_reducible refine atR 5 ?_
      | (
        refine rg 5 [] [some 4] 1 ?_
        all_goals refine qP ?_
        all_goals refine qE ?_)
      all_goals first
      | fail_if_success with_reducible refine atR 6 ?_
      | (
        refine rg 6 [] [some 19, some 20, some 1] 3 ?_
        all_goals refine qP ?_
        all_goals (
          refine qL_cons ?_
          intro R hR
          refine sm ?_
          rw [wrap64 (by omega) (by omega)]
          all_goals (refine hR _ ?_; clear hR R))
        all_goals refine qP ?_
        all_goals refine qE ?_)
      all_goals first
      | fail_if_success with_reducible refine atR 3 ?_
      | (
        refine rg 3 [] [some 10, some 11, some 5] 3 ?_
        all_goals refine qP ?_
        all_goals (
          refine qL_cons ?_
          intro R hR
          refine sm ?_
          rw [wrap64 (by omega) (by omega)]
          all_goals (refine hR _ ?_; clear hR R))
        all_goals refine qP ?_
        all_goals refine qE ?_)
      all_goals first
      | fail_if_success with_reducible refine ⟨i + 1, ?_, ?_, ?_⟩
      | (
        refine ⟨i + 1, ?_, ?_, ?_⟩
        · omega
        · omega
        · refine Vw.to [] _ _ (vU hU) ?_ ?_ (by simp [tauL])
          · refine vd (vw_d ?_ (vw_d ?_ (trivial)))
            · first
              | exact cl2
              | (
                refine sm2 ?_
                all_goals (
                 congr 1))
            · first
              | exact cl2
              | (
                refine sm2 ?_
                all_goals (
                 congr 1))
          · trivial)
      all_goals first
      | fail_if_success with_reducible refine atR 7 ?_
      | (
        refine rg 7 [] [some 21, some 4] 2 ?_
        all_goals iterate 2 refine qP ?_
        all_goals refine qE ?_)
      all_goals first
      | fail_if_success with_reducible refine ret_fun (t := 4) ?_ ?_
      | (
        refine ret_fun (t := 4) ?_ (fun _ => rfl)
        first
        | exact cl
        | (
          try refine sm ?_
          all_goals (
           first
           | (exfalso; have := h i _ hy; simp_all; done)
           | (congr 2; congr 1; omega)
           | (congr 2; omega)))))
  all_goals first
  | fail_if_success with_reducible refine ret_fun (t := 4) ?_ ?_
  | (
    refine ret_fun (t := 4) ?_ (fun _ => rfl)
    first
    | exact cl
    | (
      try refine sm ?_
      all_goals (
       first
       | (exfalso; have := h i _ hy; simp_all; done)
       | (congr 2; congr 1; omega)
       | (congr 2; omega))))

end
section
attribute [local go_sem] tsz9 tsz22 tsz27 tfld27 tel22 toNat_cast und9
theorem heldR_spec (a b c : ByteArray) (ss : List ByteArray) (k : Nat) (hk : 0 < k) (hk2 : k + ss.length ≤ 2000000) (h : ∀ (j : Nat) y, ss[j]? = some y → y = mkT (k + j)) : Fun Try.prog 29 [.ag [.d (.str a), .d (.str b), .d (.str c), .d (strs ss)], .d (.int .i64 k)] (.d (.int .i64 ((k + ss.length : Nat) : Int))) := by
  refine Fun.of ?_ rfl rfl
  refine Spec.of (fn := Try.f29) Try.func29 rfl (by kernel_rfl) (rs := [.tmp 4]) rfl 1 (by simp [Try.f29]) rfl (by simp) ?_
  intro hreal
  rintro ⟨P, T, L0, w0, ι0, C0, U0⟩ hP hT hU
  subst hP hT
  refine st ?_
  all_goals first
  | fail_if_success with_reducible refine atR 0 ?_
  | (
    refine rg 0 [] [some 2, some 4] 2 ?_
    all_goals iterate 2 refine qP ?_
    all_goals refine qE ?_)
  all_goals first
  | fail_if_success with_reducible refine atR 1 ?_
  | (
    refine rg 1 [] [some 5, some 6, some 7, some 8, some 1] 5 ?_
    all_goals iterate 3 refine qP ?_
    all_goals (
      refine qL_cons ?_
      intro R hR
      refine sm ?_
      refine call_fun (heldS_spec ss k hk hk2 h) [] ?_ (.inl rfl) ?_
      · exact ⟨.inl rfl, ⟨.inl rfl, trivial⟩⟩
      refine sm ?_
      all_goals (refine hR _ ?_; clear hR R))
    all_goals refine qP ?_
    all_goals refine qE ?_)
  all_goals first
  | fail_if_success with_reducible refine atR 2 ?_
  | (
    refine rg 2 [] [some 9, some 10] 2 ?_
    all_goals iterate 2 refine qP ?_
    all_goals refine qE ?_)
  all_goals first
  | fail_if_success with_reducible refine atC 10 ?_
  | (
    refine cn 10 ?_ ?_ <;> intro hc10 <;> try (cases hc10; done)
    all_goals refine st ?_)
  all_goals first
  | fail_if_success with_reducible refine atR 3 ?_
  | (
    refine rg 3 [] [some 4] 1 ?_
    all_goals refine qP ?_
    all_goals refine qE ?_)
  all_goals first
  | fail_if_success with_reducible refine atR 4 ?_
  | (
    refine rg 4 [] [some 11, some 4] 2 ?_
    all_goals iterate 2 refine qP ?_
    all_goals refine qE ?_)
  all_goals first
  | fail_if_success with_reducible refine ret_fun (t := 4) ?_ ?_
  | (
    refine ret_fun (t := 4) ?_ (fun _ => rfl)
    first
    | exact cl
    | (
      try refine sm ?_
      all_goals (
       (first | rfl | omega))))

end
end Go.Proofs.Ytmlbdicaeefomaa
