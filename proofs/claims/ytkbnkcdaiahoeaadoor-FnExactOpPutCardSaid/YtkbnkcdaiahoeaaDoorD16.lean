/- words, small numbers in decimals. No condition. -/
import Derived.Test.YtkbnkcdaiahoeaaDoorE31
namespace Go.Proofs.YtkbnkcdaiahoeaaDoor
open Go Go.RowKit Go.Shelf
set_option maxRecDepth 100000
set_option maxHeartbeats 4000000
set_option linter.unusedSimpArgs false
set_option linter.unusedVariables false
theorem tarr68 : tarr Tryd.prog 68 = some (7, 1) := by kernel_rfl
theorem tel68 : telem Tryd.prog 68 = none := by kernel_rfl
theorem known0 : known 0 = some [.str ⟨#[115, 101, 116]⟩, .str ⟨#[100, 114, 111, 112]⟩, .str ⟨#[109, 111, 118, 101]⟩, .str ⟨#[102, 111, 114, 107]⟩, .str ⟨#[117, 110, 105, 116, 101]⟩, .str ⟨#[112, 105, 99, 107]⟩, .str ⟨#[98, 97, 99, 107]⟩] := rfl
theorem iz5 : (tzero Tryd.prog 5).isSome = true := by kernel_rfl
theorem tsz2 : tsz Tryd.prog 2 = some (false, 1) := by kernel_rfl
/-- A number below twenty in decimals. -/
def decB (n : Int) : ByteArray := if n < 10 then ⟨#[UInt8.ofNat (48 + n.toNat)]⟩ else ⟨#[49, UInt8.ofNat (38 + n.toNat)]⟩
theorem dec_size (n : Int) : (decB n).size ≤ 2 := by
  unfold decB
  split
  · exact Nat.le_of_lt (Nat.lt_succ_self 1)
  · exact Nat.le_refl 2
def wordB (k : Int) : ByteArray := if k = 1 then ⟨#[115, 101, 116]⟩ else if k = 2 then ⟨#[100, 114, 111, 112]⟩ else if k = 3 then ⟨#[109, 111, 118, 101]⟩ else if k = 4 then ⟨#[102, 111, 114, 107]⟩ else if k = 5 then ⟨#[117, 110, 105, 116, 101]⟩ else if k = 6 then ⟨#[112, 105, 99, 107]⟩ else ⟨#[98, 97, 99, 107]⟩
def lnF (o : ByteArray) (ls : List ByteArray) : ByteArray := ls.foldl (fun o l => o ++ (⟨#[124]⟩ ++ l)) o
theorem ln_step {o : ByteArray} {ls : List ByteArray} {i : Nat} {x : ByteArray} (hx : ls[i]? = some x) : lnF o (ls.take (i + 1)) = lnF o (ls.take i) ++ (⟨#[124]⟩ ++ x) := by
  unfold lnF
  rw [List.take_add_one, hx, List.foldl_append]
  rfl
theorem ln_size {o : ByteArray} {ls : List ByteArray} (h : ∀ l ∈ ls, l.size ≤ 1000000) : ∀ i, i ≤ ls.length → (lnF o (ls.take i)).size ≤ o.size + i * 1000001
  | 0, _ => by simp [lnF]
  | i + 1, hi => by
    have hx : ls[i]? = some ls[i] := List.getElem?_eq_getElem (by omega)
    have ih := ln_size (o := o) h i (by omega)
    have hs := h ls[i] (List.getElem_mem _)
    rw [ln_step hx, ByteArray.size_append, ByteArray.size_append]
    have : (⟨#[124]⟩ : ByteArray).size = 1 := rfl
    omega
def headB (k : Int) (br who : ByteArray) : ByteArray := wordB k ++ ⟨#[32]⟩ ++ br ++ ⟨#[32]⟩ ++ who ++ ⟨#[32]⟩
/-- How it is written. -/
def putB (kind : Int) (br who path to : ByteArray) (at_ : Int) (text : List ByteArray) : ByteArray :=
  if kind = 1 then lnF (headB kind br who ++ path ++ ⟨#[32]⟩) text
  else if kind = 2 then headB kind br who ++ path
  else if kind = 3 then headB kind br who ++ path ++ ⟨#[32]⟩ ++ to
  else if kind = 4 ∨ kind = 5 then headB kind br who ++ to
  else headB kind br who ++ decB at_
attribute [local go_sem] List.size_toArray Int.toNat_zero Nat.sub_zero size_mk top_val eq_self datL X.dat u8min u8max i64min i64max stepT gdO aop ev lit litOk putF fzX_false putO upd app List.contains_nil List.elem_nil aBin aInt aStr aBool aLen lenTy aBuiltin aLoad aTake aTakeX aStore splice aSlice aBd look_cons look_nil lookC_cons lookC_nil by_s by_C start_s start_C X.cells X.cell List.all_cons List.all_nil Bool.and_self Bool.not_true Bool.not_false false_implies true_implies forall_const and_true true_and and_self implies_true not_false_eq_true Nat.zero_add Nat.add_zero List.getD_cons_zero List.getD_cons_succ List.map_cons List.map_nil Option.bind_some Option.map_some Option.map_none List.getElem?_cons_zero List.getElem?_cons_succ List.length_cons List.length_nil List.drop_zero List.drop_succ_cons List.take_succ_cons List.take_zero List.cons_append List.nil_append List.append_nil D.of List.length_map all_get_map Option.isSome_some and_false false_and Nat.lt_add_one Nat.zero_lt_succ decide_true decide_false aPart aSl2 Nat.lt_irrefl fzX litEs List.contains_cons List.elem_cons Bool.true_or Bool.or_true Bool.false_or Bool.or_false beq_self_eq_true
section
attribute [local go_sem] tsz9 tsz39 tel39 toNat_cast und9 und4 und5 und5b tsz44 tfld44 tsz3' sS tz9l iz9
theorem l19Words_spec  : Fun Tryd.prog 79 [] (.d (strs [(⟨#[]⟩ : ByteArray), (⟨#[115, 101, 116]⟩ : ByteArray), (⟨#[100, 114, 111, 112]⟩ : ByteArray), (⟨#[109, 111, 118, 101]⟩ : ByteArray), (⟨#[102, 111, 114, 107]⟩ : ByteArray), (⟨#[117, 110, 105, 116, 101]⟩ : ByteArray), (⟨#[112, 105, 99, 107]⟩ : ByteArray), (⟨#[98, 97, 99, 107]⟩ : ByteArray)])) := by
  refine Fun.of ?_ rfl rfl
  refine Spec.of (fn := Tryd.f79) Tryd.func79 rfl (by kernel_rfl) (rs := [.tmp 0]) rfl 1 (by simp [Tryd.f79]) rfl (by simp) ?_
  intro hreal
  rintro ⟨P, T, L0, w0, ι0, C0, U0⟩ hP hT hU
  subst hP hT
  refine st ?_
  all_goals first
  | fail_if_success with_reducible refine atR 0 ?_
  | (
    refine rg 0 [] [some 0] 1 ?_
    all_goals refine qP ?_
    all_goals refine qE ?_)
  all_goals first
  | fail_if_success with_reducible refine atR 1 ?_
  | (
    refine rg 1 [0] [some 1, some 0] 2 ?_
    all_goals iterate 2 refine qP ?_
    all_goals refine qE ?_)
  all_goals first
  | fail_if_success with_reducible refine ret_fun (t := 0) ?_ ?_
  | (
    refine ret_fun (t := 0) ?_ (fun _ => rfl)
    first
    | exact cl
    | (
      try refine sm ?_
      all_goals (
       rfl)))

end
section
attribute [local go_sem] tsz9 tsz39 tel39 toNat_cast und9 und4 und5 und5b tsz44 tfld44 tsz3' sS
theorem small_0  : Fun Tryd.prog 106 [.d (.int .i64 0)] (.d (.str ⟨#[48]⟩)) := by
  refine Fun.of ?_ rfl rfl
  refine Spec.of (fn := Tryd.f106) Tryd.func106 rfl (by kernel_rfl) (rs := [.tmp 2]) rfl 1 (by simp [Tryd.f106]) rfl (by simp) ?_
  intro hreal
  rintro ⟨P, T, L0, w0, ι0, C0, U0⟩ hP hT hU
  subst hP hT
  refine st ?_
  all_goals first
  | fail_if_success with_reducible refine atR 0 ?_
  | (
    refine rg 0 [] [some 2] 1 ?_
    all_goals refine qP ?_
    all_goals refine qE ?_)
  all_goals first
  | fail_if_success with_reducible refine atR 1 ?_
  | (
    refine rg 1 [] [some 3, some 4] 2 ?_
    all_goals iterate 2 refine qP ?_
    all_goals refine qE ?_)
  all_goals first
  | fail_if_success with_reducible refine atC 4 ?_
  | (
    refine cn 4 ?_ ?_ <;> intro hc4 <;> try (cases hc4; done)
    all_goals refine st ?_)
  all_goals try (exfalso; omega)
  all_goals first
  | fail_if_success with_reducible refine atR 2 ?_
  | (
    refine rg 2 [] [some 5, some 6, some 7, some 8, some 2] 5 ?_
    all_goals iterate 2 refine qP ?_
    all_goals (
      refine qL_cons ?_
      intro R hR
      refine sm ?_
      try rw [show IntKind.i64.wrap (0 + 1) = 1 from rfl]
      all_goals (refine hR _ ?_; clear hR R))
    all_goals (
      refine qL_cons ?_
      intro R hR
      refine sm ?_
      first
      | refine ⟨⟨by decide, by decide⟩, ?_⟩
      | refine ⟨by decide, ?_⟩
      | skip
      all_goals (refine hR _ ?_; clear hR R))
    all_goals refine qP ?_
    all_goals refine qE ?_)
  all_goals first
  | fail_if_success with_reducible refine atR 3 ?_
  | (
    refine rg 3 [] [some 9, some 10, some 11, some 12, some 13, some 14, some 2] 7 ?_
    all_goals refine qP ?_
    all_goals (
      refine qL_cons ?_
      intro R hR
      refine sm ?_
      try rw [show IntKind.i64.wrap (0 * 2) = 0 from rfl]
      all_goals (refine hR _ ?_; clear hR R))
    all_goals refine qP ?_
    all_goals (
      refine qL_cons ?_
      intro R hR
      refine sm ?_
      try rw [show IntKind.i64.wrap (0 * 2) = 0 from rfl]
      all_goals (refine hR _ ?_; clear hR R))
    all_goals (
      refine qL_cons ?_
      intro R hR
      refine sm ?_
      try rw [show IntKind.i64.wrap (0 + 2) = 2 from rfl]
      all_goals (refine hR _ ?_; clear hR R))
    all_goals (
      refine qL_cons ?_
      intro R hR
      refine sm ?_
      first
      | refine ⟨⟨by decide, by decide⟩, ?_⟩
      | refine ⟨by decide, ?_⟩
      | skip
      all_goals (refine hR _ ?_; clear hR R))
    all_goals refine qP ?_
    all_goals refine qE ?_)
  all_goals first
  | fail_if_success with_reducible refine ret_fun (t := 2) ?_ ?_
  | (
    refine ret_fun (t := 2) ?_ (fun _ => rfl)
    first
    | exact cl
    | (
      try refine sm ?_
      all_goals (
       (first | rfl | (congr 2; done) | (congr 2; decide)))))

end
section
attribute [local go_sem] tsz9 tsz39 tel39 toNat_cast und9 und4 und5 und5b tsz44 tfld44 tsz3' sS
theorem small_1  : Fun Tryd.prog 106 [.d (.int .i64 1)] (.d (.str ⟨#[49]⟩)) := by
  refine Fun.of ?_ rfl rfl
  refine Spec.of (fn := Tryd.f106) Tryd.func106 rfl (by kernel_rfl) (rs := [.tmp 2]) rfl 1 (by simp [Tryd.f106]) rfl (by simp) ?_
  intro hreal
  rintro ⟨P, T, L0, w0, ι0, C0, U0⟩ hP hT hU
  subst hP hT
  refine st ?_
  all_goals first
  | fail_if_success with_reducible refine atR 0 ?_
  | (
    refine rg 0 [] [some 2] 1 ?_
    all_goals refine qP ?_
    all_goals refine qE ?_)
  all_goals first
  | fail_if_success with_reducible refine atR 1 ?_
  | (
    refine rg 1 [] [some 3, some 4] 2 ?_
    all_goals iterate 2 refine qP ?_
    all_goals refine qE ?_)
  all_goals first
  | fail_if_success with_reducible refine atC 4 ?_
  | (
    refine cn 4 ?_ ?_ <;> intro hc4 <;> try (cases hc4; done)
    all_goals refine st ?_)
  all_goals try (exfalso; omega)
  all_goals first
  | fail_if_success with_reducible refine atR 2 ?_
  | (
    refine rg 2 [] [some 5, some 6, some 7, some 8, some 2] 5 ?_
    all_goals iterate 2 refine qP ?_
    all_goals (
      refine qL_cons ?_
      intro R hR
      refine sm ?_
      try rw [show IntKind.i64.wrap (1 + 1) = 2 from rfl]
      all_goals (refine hR _ ?_; clear hR R))
    all_goals (
      refine qL_cons ?_
      intro R hR
      refine sm ?_
      first
      | refine ⟨⟨by decide, by decide⟩, ?_⟩
      | refine ⟨by decide, ?_⟩
      | skip
      all_goals (refine hR _ ?_; clear hR R))
    all_goals refine qP ?_
    all_goals refine qE ?_)
  all_goals first
  | fail_if_success with_reducible refine atR 3 ?_
  | (
    refine rg 3 [] [some 9, some 10, some 11, some 12, some 13, some 14, some 2] 7 ?_
    all_goals refine qP ?_
    all_goals (
      refine qL_cons ?_
      intro R hR
      refine sm ?_
      try rw [show IntKind.i64.wrap (1 * 2) = 2 from rfl]
      all_goals (refine hR _ ?_; clear hR R))
    all_goals refine qP ?_
    all_goals (
      refine qL_cons ?_
      intro R hR
      refine sm ?_
      try rw [show IntKind.i64.wrap (1 * 2) = 2 from rfl]
      all_goals (refine hR _ ?_; clear hR R))
    all_goals (
      refine qL_cons ?_
      intro R hR
      refine sm ?_
      try rw [show IntKind.i64.wrap (2 + 2) = 4 from rfl]
      all_goals (refine hR _ ?_; clear hR R))
    all_goals (
      refine qL_cons ?_
      intro R hR
      refine sm ?_
      first
      | refine ⟨⟨by decide, by decide⟩, ?_⟩
      | refine ⟨by decide, ?_⟩
      | skip
      all_goals (refine hR _ ?_; clear hR R))
    all_goals refine qP ?_
    all_goals refine qE ?_)
  all_goals first
  | fail_if_success with_reducible refine ret_fun (t := 2) ?_ ?_
  | (
    refine ret_fun (t := 2) ?_ (fun _ => rfl)
    first
    | exact cl
    | (
      try refine sm ?_
      all_goals (
       (first | rfl | (congr 2; done) | (congr 2; decide)))))

end
section
attribute [local go_sem] tsz9 tsz39 tel39 toNat_cast und9 und4 und5 und5b tsz44 tfld44 tsz3' sS
theorem small_2  : Fun Tryd.prog 106 [.d (.int .i64 2)] (.d (.str ⟨#[50]⟩)) := by
  refine Fun.of ?_ rfl rfl
  refine Spec.of (fn := Tryd.f106) Tryd.func106 rfl (by kernel_rfl) (rs := [.tmp 2]) rfl 1 (by simp [Tryd.f106]) rfl (by simp) ?_
  intro hreal
  rintro ⟨P, T, L0, w0, ι0, C0, U0⟩ hP hT hU
  subst hP hT
  refine st ?_
  all_goals first
  | fail_if_success with_reducible refine atR 0 ?_
  | (
    refine rg 0 [] [some 2] 1 ?_
    all_goals refine qP ?_
    all_goals refine qE ?_)
  all_goals first
  | fail_if_success with_reducible refine atR 1 ?_
  | (
    refine rg 1 [] [some 3, some 4] 2 ?_
    all_goals iterate 2 refine qP ?_
    all_goals refine qE ?_)
  all_goals first
  | fail_if_success with_reducible refine atC 4 ?_
  | (
    refine cn 4 ?_ ?_ <;> intro hc4 <;> try (cases hc4; done)
    all_goals refine st ?_)
  all_goals try (exfalso; omega)
  all_goals first
  | fail_if_success with_reducible refine atR 2 ?_
  | (
    refine rg 2 [] [some 5, some 6, some 7, some 8, some 2] 5 ?_
    all_goals iterate 2 refine qP ?_
    all_goals (
      refine qL_cons ?_
      intro R hR
      refine sm ?_
      try rw [show IntKind.i64.wrap (2 + 1) = 3 from rfl]
      all_goals (refine hR _ ?_; clear hR R))
    all_goals (
      refine qL_cons ?_
      intro R hR
      refine sm ?_
      first
      | refine ⟨⟨by decide, by decide⟩, ?_⟩
      | refine ⟨by decide, ?_⟩
      | skip
      all_goals (refine hR _ ?_; clear hR R))
    all_goals refine qP ?_
    all_goals refine qE ?_)
  all_goals first
  | fail_if_success with_reducible refine atR 3 ?_
  | (
    refine rg 3 [] [some 9, some 10, some 11, some 12, some 13, some 14, some 2] 7 ?_
    all_goals refine qP ?_
    all_goals (
      refine qL_cons ?_
      intro R hR
      refine sm ?_
      try rw [show IntKind.i64.wrap (2 * 2) = 4 from rfl]
      all_goals (refine hR _ ?_; clear hR R))
    all_goals refine qP ?_
    all_goals (
      refine qL_cons ?_
      intro R hR
      refine sm ?_
      try rw [show IntKind.i64.wrap (2 * 2) = 4 from rfl]
      all_goals (refine hR _ ?_; clear hR R))
    all_goals (
      refine qL_cons ?_
      intro R hR
      refine sm ?_
      try rw [show IntKind.i64.wrap (4 + 2) = 6 from rfl]
      all_goals (refine hR _ ?_; clear hR R))
    all_goals (
      refine qL_cons ?_
      intro R hR
      refine sm ?_
      first
      | refine ⟨⟨by decide, by decide⟩, ?_⟩
      | refine ⟨by decide, ?_⟩
      | skip
      all_goals (refine hR _ ?_; clear hR R))
    all_goals refine qP ?_
    all_goals refine qE ?_)
  all_goals first
  | fail_if_success with_reducible refine ret_fun (t := 2) ?_ ?_
  | (
    refine ret_fun (t := 2) ?_ (fun _ => rfl)
    first
    | exact cl
    | (
      try refine sm ?_
      all_goals (
       (first | rfl | (congr 2; done) | (congr 2; decide)))))

end
section
attribute [local go_sem] tsz9 tsz39 tel39 toNat_cast und9 und4 und5 und5b tsz44 tfld44 tsz3' sS
theorem small_3  : Fun Tryd.prog 106 [.d (.int .i64 3)] (.d (.str ⟨#[51]⟩)) := by
  refine Fun.of ?_ rfl rfl
  refine Spec.of (fn := Tryd.f106) Tryd.func106 rfl (by kernel_rfl) (rs := [.tmp 2]) rfl 1 (by simp [Tryd.f106]) rfl (by simp) ?_
  intro hreal
  rintro ⟨P, T, L0, w0, ι0, C0, U0⟩ hP hT hU
  subst hP hT
  refine st ?_
  all_goals first
  | fail_if_success with_reducible refine atR 0 ?_
  | (
    refine rg 0 [] [some 2] 1 ?_
    all_goals refine qP ?_
    all_goals refine qE ?_)
  all_goals first
  | fail_if_success with_reducible refine atR 1 ?_
  | (
    refine rg 1 [] [some 3, some 4] 2 ?_
    all_goals iterate 2 refine qP ?_
    all_goals refine qE ?_)
  all_goals first
  | fail_if_success with_reducible refine atC 4 ?_
  | (
    refine cn 4 ?_ ?_ <;> intro hc4 <;> try (cases hc4; done)
    all_goals refine st ?_)
  all_goals try (exfalso; omega)
  all_goals first
  | fail_if_success with_reducible refine atR 2 ?_
  | (
    refine rg 2 [] [some 5, some 6, some 7, some 8, some 2] 5 ?_
    all_goals iterate 2 refine qP ?_
    all_goals (
      refine qL_cons ?_
      intro R hR
      refine sm ?_
      try rw [show IntKind.i64.wrap (3 + 1) = 4 from rfl]
      all_goals (refine hR _ ?_; clear hR R))
    all_goals (
      refine qL_cons ?_
      intro R hR
      refine sm ?_
      first
      | refine ⟨⟨by decide, by decide⟩, ?_⟩
      | refine ⟨by decide, ?_⟩
      | skip
      all_goals (refine hR _ ?_; clear hR R))
    all_goals refine qP ?_
    all_goals refine qE ?_)
  all_goals first
  | fail_if_success with_reducible refine atR 3 ?_
  | (
    refine rg 3 [] [some 9, some 10, some 11, some 12, some 13, some 14, some 2] 7 ?_
    all_goals refine qP ?_
    all_goals (
      refine qL_cons ?_
      intro R hR
      refine sm ?_
      try rw [show IntKind.i64.wrap (3 * 2) = 6 from rfl]
      all_goals (refine hR _ ?_; clear hR R))
    all_goals refine qP ?_
    all_goals (
      refine qL_cons ?_
      intro R hR
      refine sm ?_
      try rw [show IntKind.i64.wrap (3 * 2) = 6 from rfl]
      all_goals (refine hR _ ?_; clear hR R))
    all_goals (
      refine qL_cons ?_
      intro R hR
      refine sm ?_
      try rw [show IntKind.i64.wrap (6 + 2) = 8 from rfl]
      all_goals (refine hR _ ?_; clear hR R))
    all_goals (
      refine qL_cons ?_
      intro R hR
      refine sm ?_
      first
      | refine ⟨⟨by decide, by decide⟩, ?_⟩
      | refine ⟨by decide, ?_⟩
      | skip
      all_goals (refine hR _ ?_; clear hR R))
    all_goals refine qP ?_
    all_goals refine qE ?_)
  all_goals first
  | fail_if_success with_reducible refine ret_fun (t := 2) ?_ ?_
  | (
    refine ret_fun (t := 2) ?_ (fun _ => rfl)
    first
    | exact cl
    | (
      try refine sm ?_
      all_goals (
       (first | rfl | (congr 2; done) | (congr 2; decide)))))

end
section
attribute [local go_sem] tsz9 tsz39 tel39 toNat_cast und9 und4 und5 und5b tsz44 tfld44 tsz3' sS
theorem small_4  : Fun Tryd.prog 106 [.d (.int .i64 4)] (.d (.str ⟨#[52]⟩)) := by
  refine Fun.of ?_ rfl rfl
  refine Spec.of (fn := Tryd.f106) Tryd.func106 rfl (by kernel_rfl) (rs := [.tmp 2]) rfl 1 (by simp [Tryd.f106]) rfl (by simp) ?_
  intro hreal
  rintro ⟨P, T, L0, w0, ι0, C0, U0⟩ hP hT hU
  subst hP hT
  refine st ?_
  all_goals first
  | fail_if_success with_reducible refine atR 0 ?_
  | (
    refine rg 0 [] [some 2] 1 ?_
    all_goals refine qP ?_
    all_goals refine qE ?_)
  all_goals first
  | fail_if_success with_reducible refine atR 1 ?_
  | (
    refine rg 1 [] [some 3, some 4] 2 ?_
    all_goals iterate 2 refine qP ?_
    all_goals refine qE ?_)
  all_goals first
  | fail_if_success with_reducible refine atC 4 ?_
  | (
    refine cn 4 ?_ ?_ <;> intro hc4 <;> try (cases hc4; done)
    all_goals refine st ?_)
  all_goals try (exfalso; omega)
  all_goals first
  | fail_if_success with_reducible refine atR 2 ?_
  | (
    refine rg 2 [] [some 5, some 6, some 7, some 8, some 2] 5 ?_
    all_goals iterate 2 refine qP ?_
    all_goals (
      refine qL_cons ?_
      intro R hR
      refine sm ?_
      try rw [show IntKind.i64.wrap (4 + 1) = 5 from rfl]
      all_goals (refine hR _ ?_; clear hR R))
    all_goals (
      refine qL_cons ?_
      intro R hR
      refine sm ?_
      first
      | refine ⟨⟨by decide, by decide⟩, ?_⟩
      | refine ⟨by decide, ?_⟩
      | skip
      all_goals (refine hR _ ?_; clear hR R))
    all_goals refine qP ?_
    all_goals refine qE ?_)
  all_goals first
  | fail_if_success with_reducible refine atR 3 ?_
  | (
    refine rg 3 [] [some 9, some 10, some 11, some 12, some 13, some 14, some 2] 7 ?_
    all_goals refine qP ?_
    all_goals (
      refine qL_cons ?_
      intro R hR
      refine sm ?_
      try rw [show IntKind.i64.wrap (4 * 2) = 8 from rfl]
      all_goals (refine hR _ ?_; clear hR R))
    all_goals refine qP ?_
    all_goals (
      refine qL_cons ?_
      intro R hR
      refine sm ?_
      try rw [show IntKind.i64.wrap (4 * 2) = 8 from rfl]
      all_goals (refine hR _ ?_; clear hR R))
    all_goals (
      refine qL_cons ?_
      intro R hR
      refine sm ?_
      try rw [show IntKind.i64.wrap (8 + 2) = 10 from rfl]
      all_goals (refine hR _ ?_; clear hR R))
    all_goals (
      refine qL_cons ?_
      intro R hR
      refine sm ?_
      first
      | refine ⟨⟨by decide, by decide⟩, ?_⟩
      | refine ⟨by decide, ?_⟩
      | skip
      all_goals (refine hR _ ?_; clear hR R))
    all_goals refine qP ?_
    all_goals refine qE ?_)
  all_goals first
  | fail_if_success with_reducible refine ret_fun (t := 2) ?_ ?_
  | (
    refine ret_fun (t := 2) ?_ (fun _ => rfl)
    first
    | exact cl
    | (
      try refine sm ?_
      all_goals (
       (first | rfl | (congr 2; done) | (congr 2; decide)))))

end
section
attribute [local go_sem] tsz9 tsz39 tel39 toNat_cast und9 und4 und5 und5b tsz44 tfld44 tsz3' sS
theorem small_5  : Fun Tryd.prog 106 [.d (.int .i64 5)] (.d (.str ⟨#[53]⟩)) := by
  refine Fun.of ?_ rfl rfl
  refine Spec.of (fn := Tryd.f106) Tryd.func106 rfl (by kernel_rfl) (rs := [.tmp 2]) rfl 1 (by simp [Tryd.f106]) rfl (by simp) ?_
  intro hreal
  rintro ⟨P, T, L0, w0, ι0, C0, U0⟩ hP hT hU
  subst hP hT
  refine st ?_
  all_goals first
  | fail_if_success with_reducible refine atR 0 ?_
  | (
    refine rg 0 [] [some 2] 1 ?_
    all_goals refine qP ?_
    all_goals refine qE ?_)
  all_goals first
  | fail_if_success with_reducible refine atR 1 ?_
  | (
    refine rg 1 [] [some 3, some 4] 2 ?_
    all_goals iterate 2 refine qP ?_
    all_goals refine qE ?_)
  all_goals first
  | fail_if_success with_reducible refine atC 4 ?_
  | (
    refine cn 4 ?_ ?_ <;> intro hc4 <;> try (cases hc4; done)
    all_goals refine st ?_)
  all_goals try (exfalso; omega)
  all_goals first
  | fail_if_success with_reducible refine atR 2 ?_
  | (
    refine rg 2 [] [some 5, some 6, some 7, some 8, some 2] 5 ?_
    all_goals iterate 2 refine qP ?_
    all_goals (
      refine qL_cons ?_
      intro R hR
      refine sm ?_
      try rw [show IntKind.i64.wrap (5 + 1) = 6 from rfl]
      all_goals (refine hR _ ?_; clear hR R))
    all_goals (
      refine qL_cons ?_
      intro R hR
      refine sm ?_
      first
      | refine ⟨⟨by decide, by decide⟩, ?_⟩
      | refine ⟨by decide, ?_⟩
      | skip
      all_goals (refine hR _ ?_; clear hR R))
    all_goals refine qP ?_
    all_goals refine qE ?_)
  all_goals first
  | fail_if_success with_reducible refine atR 3 ?_
  | (
    refine rg 3 [] [some 9, some 10, some 11, some 12, some 13, some 14, some 2] 7 ?_
    all_goals refine qP ?_
    all_goals (
      refine qL_cons ?_
      intro R hR
      refine sm ?_
      try rw [show IntKind.i64.wrap (5 * 2) = 10 from rfl]
      all_goals (refine hR _ ?_; clear hR R))
    all_goals refine qP ?_
    all_goals (
      refine qL_cons ?_
      intro R hR
      refine sm ?_
      try rw [show IntKind.i64.wrap (5 * 2) = 10 from rfl]
      all_goals (refine hR _ ?_; clear hR R))
    all_goals (
      refine qL_cons ?_
      intro R hR
      refine sm ?_
      try rw [show IntKind.i64.wrap (10 + 2) = 12 from rfl]
      all_goals (refine hR _ ?_; clear hR R))
    all_goals (
      refine qL_cons ?_
      intro R hR
      refine sm ?_
      first
      | refine ⟨⟨by decide, by decide⟩, ?_⟩
      | refine ⟨by decide, ?_⟩
      | skip
      all_goals (refine hR _ ?_; clear hR R))
    all_goals refine qP ?_
    all_goals refine qE ?_)
  all_goals first
  | fail_if_success with_reducible refine ret_fun (t := 2) ?_ ?_
  | (
    refine ret_fun (t := 2) ?_ (fun _ => rfl)
    first
    | exact cl
    | (
      try refine sm ?_
      all_goals (
       (first | rfl | (congr 2; done) | (congr 2; decide)))))

end
section
attribute [local go_sem] tsz9 tsz39 tel39 toNat_cast und9 und4 und5 und5b tsz44 tfld44 tsz3' sS
theorem small_6  : Fun Tryd.prog 106 [.d (.int .i64 6)] (.d (.str ⟨#[54]⟩)) := by
  refine Fun.of ?_ rfl rfl
  refine Spec.of (fn := Tryd.f106) Tryd.func106 rfl (by kernel_rfl) (rs := [.tmp 2]) rfl 1 (by simp [Tryd.f106]) rfl (by simp) ?_
  intro hreal
  rintro ⟨P, T, L0, w0, ι0, C0, U0⟩ hP hT hU
  subst hP hT
  refine st ?_
  all_goals first
  | fail_if_success with_reducible refine atR 0 ?_
  | (
    refine rg 0 [] [some 2] 1 ?_
    all_goals refine qP ?_
    all_goals refine qE ?_)
  all_goals first
  | fail_if_success with_reducible refine atR 1 ?_
  | (
    refine rg 1 [] [some 3, some 4] 2 ?_
    all_goals iterate 2 refine qP ?_
    all_goals refine qE ?_)
  all_goals first
  | fail_if_success with_reducible refine atC 4 ?_
  | (
    refine cn 4 ?_ ?_ <;> intro hc4 <;> try (cases hc4; done)
    all_goals refine st ?_)
  all_goals try (exfalso; omega)
  all_goals first
  | fail_if_success with_reducible refine atR 2 ?_
  | (
    refine rg 2 [] [some 5, some 6, some 7, some 8, some 2] 5 ?_
    all_goals iterate 2 refine qP ?_
    all_goals (
      refine qL_cons ?_
      intro R hR
      refine sm ?_
      try rw [show IntKind.i64.wrap (6 + 1) = 7 from rfl]
      all_goals (refine hR _ ?_; clear hR R))
    all_goals (
      refine qL_cons ?_
      intro R hR
      refine sm ?_
      first
      | refine ⟨⟨by decide, by decide⟩, ?_⟩
      | refine ⟨by decide, ?_⟩
      | skip
      all_goals (refine hR _ ?_; clear hR R))
    all_goals refine qP ?_
    all_goals refine qE ?_)
  all_goals first
  | fail_if_success with_reducible refine atR 3 ?_
  | (
    refine rg 3 [] [some 9, some 10, some 11, some 12, some 13, some 14, some 2] 7 ?_
    all_goals refine qP ?_
    all_goals (
      refine qL_cons ?_
      intro R hR
      refine sm ?_
      try rw [show IntKind.i64.wrap (6 * 2) = 12 from rfl]
      all_goals (refine hR _ ?_; clear hR R))
    all_goals refine qP ?_
    all_goals (
      refine qL_cons ?_
      intro R hR
      refine sm ?_
      try rw [show IntKind.i64.wrap (6 * 2) = 12 from rfl]
      all_goals (refine hR _ ?_; clear hR R))
    all_goals (
      refine qL_cons ?_
      intro R hR
      refine sm ?_
      try rw [show IntKind.i64.wrap (12 + 2) = 14 from rfl]
      all_goals (refine hR _ ?_; clear hR R))
    all_goals (
      refine qL_cons ?_
      intro R hR
      refine sm ?_
      first
      | refine ⟨⟨by decide, by decide⟩, ?_⟩
      | refine ⟨by decide, ?_⟩
      | skip
      all_goals (refine hR _ ?_; clear hR R))
    all_goals refine qP ?_
    all_goals refine qE ?_)
  all_goals first
  | fail_if_success with_reducible refine ret_fun (t := 2) ?_ ?_
  | (
    refine ret_fun (t := 2) ?_ (fun _ => rfl)
    first
    | exact cl
    | (
      try refine sm ?_
      all_goals (
       (first | rfl | (congr 2; done) | (congr 2; decide)))))

end
section
attribute [local go_sem] tsz9 tsz39 tel39 toNat_cast und9 und4 und5 und5b tsz44 tfld44 tsz3' sS
theorem small_7  : Fun Tryd.prog 106 [.d (.int .i64 7)] (.d (.str ⟨#[55]⟩)) := by
  refine Fun.of ?_ rfl rfl
  refine Spec.of (fn := Tryd.f106) Tryd.func106 rfl (by kernel_rfl) (rs := [.tmp 2]) rfl 1 (by simp [Tryd.f106]) rfl (by simp) ?_
  intro hreal
  rintro ⟨P, T, L0, w0, ι0, C0, U0⟩ hP hT hU
  subst hP hT
  refine st ?_
  all_goals first
  | fail_if_success with_reducible refine atR 0 ?_
  | (
    refine rg 0 [] [some 2] 1 ?_
    all_goals refine qP ?_
    all_goals refine qE ?_)
  all_goals first
  | fail_if_success with_reducible refine atR 1 ?_
  | (
    refine rg 1 [] [some 3, some 4] 2 ?_
    all_goals iterate 2 refine qP ?_
    all_goals refine qE ?_)
  all_goals first
  | fail_if_success with_reducible refine atC 4 ?_
  | (
    refine cn 4 ?_ ?_ <;> intro hc4 <;> try (cases hc4; done)
    all_goals refine st ?_)
  all_goals try (exfalso; omega)
  all_goals first
  | fail_if_success with_reducible refine atR 2 ?_
  | (
    refine rg 2 [] [some 5, some 6, some 7, some 8, some 2] 5 ?_
    all_goals iterate 2 refine qP ?_
    all_goals (
      refine qL_cons ?_
      intro R hR
      refine sm ?_
      try rw [show IntKind.i64.wrap (7 + 1) = 8 from rfl]
      all_goals (refine hR _ ?_; clear hR R))
    all_goals (
      refine qL_cons ?_
      intro R hR
      refine sm ?_
      first
      | refine ⟨⟨by decide, by decide⟩, ?_⟩
      | refine ⟨by decide, ?_⟩
      | skip
      all_goals (refine hR _ ?_; clear hR R))
    all_goals refine qP ?_
    all_goals refine qE ?_)
  all_goals first
  | fail_if_success with_reducible refine atR 3 ?_
  | (
    refine rg 3 [] [some 9, some 10, some 11, some 12, some 13, some 14, some 2] 7 ?_
    all_goals refine qP ?_
    all_goals (
      refine qL_cons ?_
      intro R hR
      refine sm ?_
      try rw [show IntKind.i64.wrap (7 * 2) = 14 from rfl]
      all_goals (refine hR _ ?_; clear hR R))
    all_goals refine qP ?_
    all_goals (
      refine qL_cons ?_
      intro R hR
      refine sm ?_
      try rw [show IntKind.i64.wrap (7 * 2) = 14 from rfl]
      all_goals (refine hR _ ?_; clear hR R))
    all_goals (
      refine qL_cons ?_
      intro R hR
      refine sm ?_
      try rw [show IntKind.i64.wrap (14 + 2) = 16 from rfl]
      all_goals (refine hR _ ?_; clear hR R))
    all_goals (
      refine qL_cons ?_
      intro R hR
      refine sm ?_
      first
      | refine ⟨⟨by decide, by decide⟩, ?_⟩
      | refine ⟨by decide, ?_⟩
      | skip
      all_goals (refine hR _ ?_; clear hR R))
    all_goals refine qP ?_
    all_goals refine qE ?_)
  all_goals first
  | fail_if_success with_reducible refine ret_fun (t := 2) ?_ ?_
  | (
    refine ret_fun (t := 2) ?_ (fun _ => rfl)
    first
    | exact cl
    | (
      try refine sm ?_
      all_goals (
       (first | rfl | (congr 2; done) | (congr 2; decide)))))

end
section
attribute [local go_sem] tsz9 tsz39 tel39 toNat_cast und9 und4 und5 und5b tsz44 tfld44 tsz3' sS
theorem small_8  : Fun Tryd.prog 106 [.d (.int .i64 8)] (.d (.str ⟨#[56]⟩)) := by
  refine Fun.of ?_ rfl rfl
  refine Spec.of (fn := Tryd.f106) Tryd.func106 rfl (by kernel_rfl) (rs := [.tmp 2]) rfl 1 (by simp [Tryd.f106]) rfl (by simp) ?_
  intro hreal
  rintro ⟨P, T, L0, w0, ι0, C0, U0⟩ hP hT hU
  subst hP hT
  refine st ?_
  all_goals first
  | fail_if_success with_reducible refine atR 0 ?_
  | (
    refine rg 0 [] [some 2] 1 ?_
    all_goals refine qP ?_
    all_goals refine qE ?_)
  all_goals first
  | fail_if_success with_reducible refine atR 1 ?_
  | (
    refine rg 1 [] [some 3, some 4] 2 ?_
    all_goals iterate 2 refine qP ?_
    all_goals refine qE ?_)
  all_goals first
  | fail_if_success with_reducible refine atC 4 ?_
  | (
    refine cn 4 ?_ ?_ <;> intro hc4 <;> try (cases hc4; done)
    all_goals refine st ?_)
  all_goals try (exfalso; omega)
  all_goals first
  | fail_if_success with_reducible refine atR 2 ?_
  | (
    refine rg 2 [] [some 5, some 6, some 7, some 8, some 2] 5 ?_
    all_goals iterate 2 refine qP ?_
    all_goals (
      refine qL_cons ?_
      intro R hR
      refine sm ?_
      try rw [show IntKind.i64.wrap (8 + 1) = 9 from rfl]
      all_goals (refine hR _ ?_; clear hR R))
    all_goals (
      refine qL_cons ?_
      intro R hR
      refine sm ?_
      first
      | refine ⟨⟨by decide, by decide⟩, ?_⟩
      | refine ⟨by decide, ?_⟩
      | skip
      all_goals (refine hR _ ?_; clear hR R))
    all_goals refine qP ?_
    all_goals refine qE ?_)
  all_goals first
  | fail_if_success with_reducible refine atR 3 ?_
  | (
    refine rg 3 [] [some 9, some 10, some 11, some 12, some 13, some 14, some 2] 7 ?_
    all_goals refine qP ?_
    all_goals (
      refine qL_cons ?_
      intro R hR
      refine sm ?_
      try rw [show IntKind.i64.wrap (8 * 2) = 16 from rfl]
      all_goals (refine hR _ ?_; clear hR R))
    all_goals refine qP ?_
    all_goals (
      refine qL_cons ?_
      intro R hR
      refine sm ?_
      try rw [show IntKind.i64.wrap (8 * 2) = 16 from rfl]
      all_goals (refine hR _ ?_; clear hR R))
    all_goals (
      refine qL_cons ?_
      intro R hR
      refine sm ?_
      try rw [show IntKind.i64.wrap (16 + 2) = 18 from rfl]
      all_goals (refine hR _ ?_; clear hR R))
    all_goals (
      refine qL_cons ?_
      intro R hR
      refine sm ?_
      first
      | refine ⟨⟨by decide, by decide⟩, ?_⟩
      | refine ⟨by decide, ?_⟩
      | skip
      all_goals (refine hR _ ?_; clear hR R))
    all_goals refine qP ?_
    all_goals refine qE ?_)
  all_goals first
  | fail_if_success with_reducible refine ret_fun (t := 2) ?_ ?_
  | (
    refine ret_fun (t := 2) ?_ (fun _ => rfl)
    first
    | exact cl
    | (
      try refine sm ?_
      all_goals (
       (first | rfl | (congr 2; done) | (congr 2; decide)))))

end
section
attribute [local go_sem] tsz9 tsz39 tel39 toNat_cast und9 und4 und5 und5b tsz44 tfld44 tsz3' sS
theorem small_9  : Fun Tryd.prog 106 [.d (.int .i64 9)] (.d (.str ⟨#[57]⟩)) := by
  refine Fun.of ?_ rfl rfl
  refine Spec.of (fn := Tryd.f106) Tryd.func106 rfl (by kernel_rfl) (rs := [.tmp 2]) rfl 1 (by simp [Tryd.f106]) rfl (by simp) ?_
  intro hreal
  rintro ⟨P, T, L0, w0, ι0, C0, U0⟩ hP hT hU
  subst hP hT
  refine st ?_
  all_goals first
  | fail_if_success with_reducible refine atR 0 ?_
  | (
    refine rg 0 [] [some 2] 1 ?_
    all_goals refine qP ?_
    all_goals refine qE ?_)
  all_goals first
  | fail_if_success with_reducible refine atR 1 ?_
  | (
    refine rg 1 [] [some 3, some 4] 2 ?_
    all_goals iterate 2 refine qP ?_
    all_goals refine qE ?_)
  all_goals first
  | fail_if_success with_reducible refine atC 4 ?_
  | (
    refine cn 4 ?_ ?_ <;> intro hc4 <;> try (cases hc4; done)
    all_goals refine st ?_)
  all_goals try (exfalso; omega)
  all_goals first
  | fail_if_success with_reducible refine atR 2 ?_
  | (
    refine rg 2 [] [some 5, some 6, some 7, some 8, some 2] 5 ?_
    all_goals iterate 2 refine qP ?_
    all_goals (
      refine qL_cons ?_
      intro R hR
      refine sm ?_
      try rw [show IntKind.i64.wrap (9 + 1) = 10 from rfl]
      all_goals (refine hR _ ?_; clear hR R))
    all_goals (
      refine qL_cons ?_
      intro R hR
      refine sm ?_
      first
      | refine ⟨⟨by decide, by decide⟩, ?_⟩
      | refine ⟨by decide, ?_⟩
      | skip
      all_goals (refine hR _ ?_; clear hR R))
    all_goals refine qP ?_
    all_goals refine qE ?_)
  all_goals first
  | fail_if_success with_reducible refine atR 3 ?_
  | (
    refine rg 3 [] [some 9, some 10, some 11, some 12, some 13, some 14, some 2] 7 ?_
    all_goals refine qP ?_
    all_goals (
      refine qL_cons ?_
      intro R hR
      refine sm ?_
      try rw [show IntKind.i64.wrap (9 * 2) = 18 from rfl]
      all_goals (refine hR _ ?_; clear hR R))
    all_goals refine qP ?_
    all_goals (
      refine qL_cons ?_
      intro R hR
      refine sm ?_
      try rw [show IntKind.i64.wrap (9 * 2) = 18 from rfl]
      all_goals (refine hR _ ?_; clear hR R))
    all_goals (
      refine qL_cons ?_
      intro R hR
      refine sm ?_
      try rw [show IntKind.i64.wrap (18 + 2) = 20 from rfl]
      all_goals (refine hR _ ?_; clear hR R))
    all_goals (
      refine qL_cons ?_
      intro R hR
      refine sm ?_
      first
      | refine ⟨⟨by decide, by decide⟩, ?_⟩
      | refine ⟨by decide, ?_⟩
      | skip
      all_goals (refine hR _ ?_; clear hR R))
    all_goals refine qP ?_
    all_goals refine qE ?_)
  all_goals first
  | fail_if_success with_reducible refine ret_fun (t := 2) ?_ ?_
  | (
    refine ret_fun (t := 2) ?_ (fun _ => rfl)
    first
    | exact cl
    | (
      try refine sm ?_
      all_goals (
       (first | rfl | (congr 2; done) | (congr 2; decide)))))

end
section
attribute [local go_sem] tsz9 tsz39 tel39 toNat_cast und9 und4 und5 und5b tsz44 tfld44 tsz3' sS
theorem small_10  : Fun Tryd.prog 106 [.d (.int .i64 10)] (.d (.str ⟨#[49, 48]⟩)) := by
  refine Fun.of ?_ rfl rfl
  refine Spec.of (fn := Tryd.f106) Tryd.func106 rfl (by kernel_rfl) (rs := [.tmp 2]) rfl 1 (by simp [Tryd.f106]) rfl (by simp) ?_
  intro hreal
  rintro ⟨P, T, L0, w0, ι0, C0, U0⟩ hP hT hU
  subst hP hT
  refine st ?_
  all_goals first
  | fail_if_success with_reducible refine atR 0 ?_
  | (
    refine rg 0 [] [some 2] 1 ?_
    all_goals refine qP ?_
    all_goals refine qE ?_)
  all_goals first
  | fail_if_success with_reducible refine atR 1 ?_
  | (
    refine rg 1 [] [some 3, some 4] 2 ?_
    all_goals iterate 2 refine qP ?_
    all_goals refine qE ?_)
  all_goals first
  | fail_if_success with_reducible refine atC 4 ?_
  | (
    refine cn 4 ?_ ?_ <;> intro hc4 <;> try (cases hc4; done)
    all_goals refine st ?_)
  all_goals try (exfalso; omega)
  all_goals first
  | fail_if_success with_reducible refine atR 2 ?_
  | (
    refine rg 2 [] [some 5, some 6, some 7, some 8, some 2] 5 ?_
    all_goals iterate 2 refine qP ?_
    all_goals (
      refine qL_cons ?_
      intro R hR
      refine sm ?_
      try rw [show IntKind.i64.wrap (10 + 1) = 11 from rfl]
      all_goals (refine hR _ ?_; clear hR R))
    all_goals (
      refine qL_cons ?_
      intro R hR
      refine sm ?_
      first
      | refine ⟨⟨by decide, by decide⟩, ?_⟩
      | refine ⟨by decide, ?_⟩
      | skip
      all_goals (refine hR _ ?_; clear hR R))
    all_goals refine qP ?_
    all_goals refine qE ?_)
  all_goals first
  | fail_if_success with_reducible refine atR 3 ?_
  | (
    refine rg 3 [] [some 9, some 10, some 11, some 12, some 13, some 14, some 2] 7 ?_
    all_goals refine qP ?_
    all_goals (
      refine qL_cons ?_
      intro R hR
      refine sm ?_
      try rw [show IntKind.i64.wrap (10 * 2) = 20 from rfl]
      all_goals (refine hR _ ?_; clear hR R))
    all_goals refine qP ?_
    all_goals (
      refine qL_cons ?_
      intro R hR
      refine sm ?_
      try rw [show IntKind.i64.wrap (10 * 2) = 20 from rfl]
      all_goals (refine hR _ ?_; clear hR R))
    all_goals (
      refine qL_cons ?_
      intro R hR
      refine sm ?_
      try rw [show IntKind.i64.wrap (20 + 2) = 22 from rfl]
      all_goals (refine hR _ ?_; clear hR R))
    all_goals (
      refine qL_cons ?_
      intro R hR
      refine sm ?_
      first
      | refine ⟨⟨by decide, by decide⟩, ?_⟩
      | refine ⟨by decide, ?_⟩
      | skip
      all_goals (refine hR _ ?_; clear hR R))
    all_goals refine qP ?_
    all_goals refine qE ?_)
  all_goals first
  | fail_if_success with_reducible refine ret_fun (t := 2) ?_ ?_
  | (
    refine ret_fun (t := 2) ?_ (fun _ => rfl)
    first
    | exact cl
    | (
      try refine sm ?_
      all_goals (
       (first | rfl | (congr 2; done) | (congr 2; decide)))))

end
section
attribute [local go_sem] tsz9 tsz39 tel39 toNat_cast und9 und4 und5 und5b tsz44 tfld44 tsz3' sS
theorem small_11  : Fun Tryd.prog 106 [.d (.int .i64 11)] (.d (.str ⟨#[49, 49]⟩)) := by
  refine Fun.of ?_ rfl rfl
  refine Spec.of (fn := Tryd.f106) Tryd.func106 rfl (by kernel_rfl) (rs := [.tmp 2]) rfl 1 (by simp [Tryd.f106]) rfl (by simp) ?_
  intro hreal
  rintro ⟨P, T, L0, w0, ι0, C0, U0⟩ hP hT hU
  subst hP hT
  refine st ?_
  all_goals first
  | fail_if_success with_reducible refine atR 0 ?_
  | (
    refine rg 0 [] [some 2] 1 ?_
    all_goals refine qP ?_
    all_goals refine qE ?_)
  all_goals first
  | fail_if_success with_reducible refine atR 1 ?_
  | (
    refine rg 1 [] [some 3, some 4] 2 ?_
    all_goals iterate 2 refine qP ?_
    all_goals refine qE ?_)
  all_goals first
  | fail_if_success with_reducible refine atC 4 ?_
  | (
    refine cn 4 ?_ ?_ <;> intro hc4 <;> try (cases hc4; done)
    all_goals refine st ?_)
  all_goals try (exfalso; omega)
  all_goals first
  | fail_if_success with_reducible refine atR 2 ?_
  | (
    refine rg 2 [] [some 5, some 6, some 7, some 8, some 2] 5 ?_
    all_goals iterate 2 refine qP ?_
    all_goals (
      refine qL_cons ?_
      intro R hR
      refine sm ?_
      try rw [show IntKind.i64.wrap (11 + 1) = 12 from rfl]
      all_goals (refine hR _ ?_; clear hR R))
    all_goals (
      refine qL_cons ?_
      intro R hR
      refine sm ?_
      first
      | refine ⟨⟨by decide, by decide⟩, ?_⟩
      | refine ⟨by decide, ?_⟩
      | skip
      all_goals (refine hR _ ?_; clear hR R))
    all_goals refine qP ?_
    all_goals refine qE ?_)
  all_goals first
  | fail_if_success with_reducible refine atR 3 ?_
  | (
    refine rg 3 [] [some 9, some 10, some 11, some 12, some 13, some 14, some 2] 7 ?_
    all_goals refine qP ?_
    all_goals (
      refine qL_cons ?_
      intro R hR
      refine sm ?_
      try rw [show IntKind.i64.wrap (11 * 2) = 22 from rfl]
      all_goals (refine hR _ ?_; clear hR R))
    all_goals refine qP ?_
    all_goals (
      refine qL_cons ?_
      intro R hR
      refine sm ?_
      try rw [show IntKind.i64.wrap (11 * 2) = 22 from rfl]
      all_goals (refine hR _ ?_; clear hR R))
    all_goals (
      refine qL_cons ?_
      intro R hR
      refine sm ?_
      try rw [show IntKind.i64.wrap (22 + 2) = 24 from rfl]
      all_goals (refine hR _ ?_; clear hR R))
    all_goals (
      refine qL_cons ?_
      intro R hR
      refine sm ?_
      first
      | refine ⟨⟨by decide, by decide⟩, ?_⟩
      | refine ⟨by decide, ?_⟩
      | skip
      all_goals (refine hR _ ?_; clear hR R))
    all_goals refine qP ?_
    all_goals refine qE ?_)
  all_goals first
  | fail_if_success with_reducible refine ret_fun (t := 2) ?_ ?_
  | (
    refine ret_fun (t := 2) ?_ (fun _ => rfl)
    first
    | exact cl
    | (
      try refine sm ?_
      all_goals (
       (first | rfl | (congr 2; done) | (congr 2; decide)))))

end
section
attribute [local go_sem] tsz9 tsz39 tel39 toNat_cast und9 und4 und5 und5b tsz44 tfld44 tsz3' sS
theorem small_12  : Fun Tryd.prog 106 [.d (.int .i64 12)] (.d (.str ⟨#[49, 50]⟩)) := by
  refine Fun.of ?_ rfl rfl
  refine Spec.of (fn := Tryd.f106) Tryd.func106 rfl (by kernel_rfl) (rs := [.tmp 2]) rfl 1 (by simp [Tryd.f106]) rfl (by simp) ?_
  intro hreal
  rintro ⟨P, T, L0, w0, ι0, C0, U0⟩ hP hT hU
  subst hP hT
  refine st ?_
  all_goals first
  | fail_if_success with_reducible refine atR 0 ?_
  | (
    refine rg 0 [] [some 2] 1 ?_
    all_goals refine qP ?_
    all_goals refine qE ?_)
  all_goals first
  | fail_if_success with_reducible refine atR 1 ?_
  | (
    refine rg 1 [] [some 3, some 4] 2 ?_
    all_goals iterate 2 refine qP ?_
    all_goals refine qE ?_)
  all_goals first
  | fail_if_success with_reducible refine atC 4 ?_
  | (
    refine cn 4 ?_ ?_ <;> intro hc4 <;> try (cases hc4; done)
    all_goals refine st ?_)
  all_goals try (exfalso; omega)
  all_goals first
  | fail_if_success with_reducible refine atR 2 ?_
  | (
    refine rg 2 [] [some 5, some 6, some 7, some 8, some 2] 5 ?_
    all_goals iterate 2 refine qP ?_
    all_goals (
      refine qL_cons ?_
      intro R hR
      refine sm ?_
      try rw [show IntKind.i64.wrap (12 + 1) = 13 from rfl]
      all_goals (refine hR _ ?_; clear hR R))
    all_goals (
      refine qL_cons ?_
      intro R hR
      refine sm ?_
      first
      | refine ⟨⟨by decide, by decide⟩, ?_⟩
      | refine ⟨by decide, ?_⟩
      | skip
      all_goals (refine hR _ ?_; clear hR R))
    all_goals refine qP ?_
    all_goals refine qE ?_)
  all_goals first
  | fail_if_success with_reducible refine atR 3 ?_
  | (
    refine rg 3 [] [some 9, some 10, some 11, some 12, some 13, some 14, some 2] 7 ?_
    all_goals refine qP ?_
    all_goals (
      refine qL_cons ?_
      intro R hR
      refine sm ?_
      try rw [show IntKind.i64.wrap (12 * 2) = 24 from rfl]
      all_goals (refine hR _ ?_; clear hR R))
    all_goals refine qP ?_
    all_goals (
      refine qL_cons ?_
      intro R hR
      refine sm ?_
      try rw [show IntKind.i64.wrap (12 * 2) = 24 from rfl]
      all_goals (refine hR _ ?_; clear hR R))
    all_goals (
      refine qL_cons ?_
      intro R hR
      refine sm ?_
      try rw [show IntKind.i64.wrap (24 + 2) = 26 from rfl]
      all_goals (refine hR _ ?_; clear hR R))
    all_goals (
      refine qL_cons ?_
      intro R hR
      refine sm ?_
      first
      | refine ⟨⟨by decide, by decide⟩, ?_⟩
      | refine ⟨by decide, ?_⟩
      | skip
      all_goals (refine hR _ ?_; clear hR R))
    all_goals refine qP ?_
    all_goals refine qE ?_)
  all_goals first
  | fail_if_success with_reducible refine ret_fun (t := 2) ?_ ?_
  | (
    refine ret_fun (t := 2) ?_ (fun _ => rfl)
    first
    | exact cl
    | (
      try refine sm ?_
      all_goals (
       (first | rfl | (congr 2; done) | (congr 2; decide)))))

end
section
attribute [local go_sem] tsz9 tsz39 tel39 toNat_cast und9 und4 und5 und5b tsz44 tfld44 tsz3' sS
theorem small_13  : Fun Tryd.prog 106 [.d (.int .i64 13)] (.d (.str ⟨#[49, 51]⟩)) := by
  refine Fun.of ?_ rfl rfl
  refine Spec.of (fn := Tryd.f106) Tryd.func106 rfl (by kernel_rfl) (rs := [.tmp 2]) rfl 1 (by simp [Tryd.f106]) rfl (by simp) ?_
  intro hreal
  rintro ⟨P, T, L0, w0, ι0, C0, U0⟩ hP hT hU
  subst hP hT
  refine st ?_
  all_goals first
  | fail_if_success with_reducible refine atR 0 ?_
  | (
    refine rg 0 [] [some 2] 1 ?_
    all_goals refine qP ?_
    all_goals refine qE ?_)
  all_goals first
  | fail_if_success with_reducible refine atR 1 ?_
  | (
    refine rg 1 [] [some 3, some 4] 2 ?_
    all_goals iterate 2 refine qP ?_
    all_goals refine qE ?_)
  all_goals first
  | fail_if_success with_reducible refine atC 4 ?_
  | (
    refine cn 4 ?_ ?_ <;> intro hc4 <;> try (cases hc4; done)
    all_goals refine st ?_)
  all_goals try (exfalso; omega)
  all_goals first
  | fail_if_success with_reducible refine atR 2 ?_
  | (
    refine rg 2 [] [some 5, some 6, some 7, some 8, some 2] 5 ?_
    all_goals iterate 2 refine qP ?_
    all_goals (
      refine qL_cons ?_
      intro R hR
      refine sm ?_
      try rw [show IntKind.i64.wrap (13 + 1) = 14 from rfl]
      all_goals (refine hR _ ?_; clear hR R))
    all_goals (
      refine qL_cons ?_
      intro R hR
      refine sm ?_
      first
      | refine ⟨⟨by decide, by decide⟩, ?_⟩
      | refine ⟨by decide, ?_⟩
      | skip
      all_goals (refine hR _ ?_; clear hR R))
    all_goals refine qP ?_
    all_goals refine qE ?_)
  all_goals first
  | fail_if_success with_reducible refine atR 3 ?_
  | (
    refine rg 3 [] [some 9, some 10, some 11, some 12, some 13, some 14, some 2] 7 ?_
    all_goals refine qP ?_
    all_goals (
      refine qL_cons ?_
      intro R hR
      refine sm ?_
      try rw [show IntKind.i64.wrap (13 * 2) = 26 from rfl]
      all_goals (refine hR _ ?_; clear hR R))
    all_goals refine qP ?_
    all_goals (
      refine qL_cons ?_
      intro R hR
      refine sm ?_
      try rw [show IntKind.i64.wrap (13 * 2) = 26 from rfl]
      all_goals (refine hR _ ?_; clear hR R))
    all_goals (
      refine qL_cons ?_
      intro R hR
      refine sm ?_
      try rw [show IntKind.i64.wrap (26 + 2) = 28 from rfl]
      all_goals (refine hR _ ?_; clear hR R))
    all_goals (
      refine qL_cons ?_
      intro R hR
      refine sm ?_
      first
      | refine ⟨⟨by decide, by decide⟩, ?_⟩
      | refine ⟨by decide, ?_⟩
      | skip
      all_goals (refine hR _ ?_; clear hR R))
    all_goals refine qP ?_
    all_goals refine qE ?_)
  all_goals first
  | fail_if_success with_reducible refine ret_fun (t := 2) ?_ ?_
  | (
    refine ret_fun (t := 2) ?_ (fun _ => rfl)
    first
    | exact cl
    | (
      try refine sm ?_
      all_goals (
       (first | rfl | (congr 2; done) | (congr 2; decide)))))

end
section
attribute [local go_sem] tsz9 tsz39 tel39 toNat_cast und9 und4 und5 und5b tsz44 tfld44 tsz3' sS
theorem small_14  : Fun Tryd.prog 106 [.d (.int .i64 14)] (.d (.str ⟨#[49, 52]⟩)) := by
  refine Fun.of ?_ rfl rfl
  refine Spec.of (fn := Tryd.f106) Tryd.func106 rfl (by kernel_rfl) (rs := [.tmp 2]) rfl 1 (by simp [Tryd.f106]) rfl (by simp) ?_
  intro hreal
  rintro ⟨P, T, L0, w0, ι0, C0, U0⟩ hP hT hU
  subst hP hT
  refine st ?_
  all_goals first
  | fail_if_success with_reducible refine atR 0 ?_
  | (
    refine rg 0 [] [some 2] 1 ?_
    all_goals refine qP ?_
    all_goals refine qE ?_)
  all_goals first
  | fail_if_success with_reducible refine atR 1 ?_
  | (
    refine rg 1 [] [some 3, some 4] 2 ?_
    all_goals iterate 2 refine qP ?_
    all_goals refine qE ?_)
  all_goals first
  | fail_if_success with_reducible refine atC 4 ?_
  | (
    refine cn 4 ?_ ?_ <;> intro hc4 <;> try (cases hc4; done)
    all_goals refine st ?_)
  all_goals try (exfalso; omega)
  all_goals first
  | fail_if_success with_reducible refine atR 2 ?_
  | (
    refine rg 2 [] [some 5, some 6, some 7, some 8, some 2] 5 ?_
    all_goals iterate 2 refine qP ?_
    all_goals (
      refine qL_cons ?_
      intro R hR
      refine sm ?_
      try rw [show IntKind.i64.wrap (14 + 1) = 15 from rfl]
      all_goals (refine hR _ ?_; clear hR R))
    all_goals (
      refine qL_cons ?_
      intro R hR
      refine sm ?_
      first
      | refine ⟨⟨by decide, by decide⟩, ?_⟩
      | refine ⟨by decide, ?_⟩
      | skip
      all_goals (refine hR _ ?_; clear hR R))
    all_goals refine qP ?_
    all_goals refine qE ?_)
  all_goals first
  | fail_if_success with_reducible refine atR 3 ?_
  | (
    refine rg 3 [] [some 9, some 10, some 11, some 12, some 13, some 14, some 2] 7 ?_
    all_goals refine qP ?_
    all_goals (
      refine qL_cons ?_
      intro R hR
      refine sm ?_
      try rw [show IntKind.i64.wrap (14 * 2) = 28 from rfl]
      all_goals (refine hR _ ?_; clear hR R))
    all_goals refine qP ?_
    all_goals (
      refine qL_cons ?_
      intro R hR
      refine sm ?_
      try rw [show IntKind.i64.wrap (14 * 2) = 28 from rfl]
      all_goals (refine hR _ ?_; clear hR R))
    all_goals (
      refine qL_cons ?_
      intro R hR
      refine sm ?_
      try rw [show IntKind.i64.wrap (28 + 2) = 30 from rfl]
      all_goals (refine hR _ ?_; clear hR R))
    all_goals (
      refine qL_cons ?_
      intro R hR
      refine sm ?_
      first
      | refine ⟨⟨by decide, by decide⟩, ?_⟩
      | refine ⟨by decide, ?_⟩
      | skip
      all_goals (refine hR _ ?_; clear hR R))
    all_goals refine qP ?_
    all_goals refine qE ?_)
  all_goals first
  | fail_if_success with_reducible refine ret_fun (t := 2) ?_ ?_
  | (
    refine ret_fun (t := 2) ?_ (fun _ => rfl)
    first
    | exact cl
    | (
      try refine sm ?_
      all_goals (
       (first | rfl | (congr 2; done) | (congr 2; decide)))))

end
section
attribute [local go_sem] tsz9 tsz39 tel39 toNat_cast und9 und4 und5 und5b tsz44 tfld44 tsz3' sS
theorem small_15  : Fun Tryd.prog 106 [.d (.int .i64 15)] (.d (.str ⟨#[49, 53]⟩)) := by
  refine Fun.of ?_ rfl rfl
  refine Spec.of (fn := Tryd.f106) Tryd.func106 rfl (by kernel_rfl) (rs := [.tmp 2]) rfl 1 (by simp [Tryd.f106]) rfl (by simp) ?_
  intro hreal
  rintro ⟨P, T, L0, w0, ι0, C0, U0⟩ hP hT hU
  subst hP hT
  refine st ?_
  all_goals first
  | fail_if_success with_reducible refine atR 0 ?_
  | (
    refine rg 0 [] [some 2] 1 ?_
    all_goals refine qP ?_
    all_goals refine qE ?_)
  all_goals first
  | fail_if_success with_reducible refine atR 1 ?_
  | (
    refine rg 1 [] [some 3, some 4] 2 ?_
    all_goals iterate 2 refine qP ?_
    all_goals refine qE ?_)
  all_goals first
  | fail_if_success with_reducible refine atC 4 ?_
  | (
    refine cn 4 ?_ ?_ <;> intro hc4 <;> try (cases hc4; done)
    all_goals refine st ?_)
  all_goals try (exfalso; omega)
  all_goals first
  | fail_if_success with_reducible refine atR 2 ?_
  | (
    refine rg 2 [] [some 5, some 6, some 7, some 8, some 2] 5 ?_
    all_goals iterate 2 refine qP ?_
    all_goals (
      refine qL_cons ?_
      intro R hR
      refine sm ?_
      try rw [show IntKind.i64.wrap (15 + 1) = 16 from rfl]
      all_goals (refine hR _ ?_; clear hR R))
    all_goals (
      refine qL_cons ?_
      intro R hR
      refine sm ?_
      first
      | refine ⟨⟨by decide, by decide⟩, ?_⟩
      | refine ⟨by decide, ?_⟩
      | skip
      all_goals (refine hR _ ?_; clear hR R))
    all_goals refine qP ?_
    all_goals refine qE ?_)
  all_goals first
  | fail_if_success with_reducible refine atR 3 ?_
  | (
    refine rg 3 [] [some 9, some 10, some 11, some 12, some 13, some 14, some 2] 7 ?_
    all_goals refine qP ?_
    all_goals (
      refine qL_cons ?_
      intro R hR
      refine sm ?_
      try rw [show IntKind.i64.wrap (15 * 2) = 30 from rfl]
      all_goals (refine hR _ ?_; clear hR R))
    all_goals refine qP ?_
    all_goals (
      refine qL_cons ?_
      intro R hR
      refine sm ?_
      try rw [show IntKind.i64.wrap (15 * 2) = 30 from rfl]
      all_goals (refine hR _ ?_; clear hR R))
    all_goals (
      refine qL_cons ?_
      intro R hR
      refine sm ?_
      try rw [show IntKind.i64.wrap (30 + 2) = 32 from rfl]
      all_goals (refine hR _ ?_; clear hR R))
    all_goals (
      refine qL_cons ?_
      intro R hR
      refine sm ?_
      first
      | refine ⟨⟨by decide, by decide⟩, ?_⟩
      | refine ⟨by decide, ?_⟩
      | skip
      all_goals (refine hR _ ?_; clear hR R))
    all_goals refine qP ?_
    all_goals refine qE ?_)
  all_goals first
  | fail_if_success with_reducible refine ret_fun (t := 2) ?_ ?_
  | (
    refine ret_fun (t := 2) ?_ (fun _ => rfl)
    first
    | exact cl
    | (
      try refine sm ?_
      all_goals (
       (first | rfl | (congr 2; done) | (congr 2; decide)))))

end
section
attribute [local go_sem] tsz9 tsz39 tel39 toNat_cast und9 und4 und5 und5b tsz44 tfld44 tsz3' sS tsz29 tel29 und3 iz5 nums8
theorem l1Dec_0  : Fun Tryd.prog 80 [.d (.int .i64 0)] (.d (.str ⟨#[48]⟩)) := by
  refine Fun.of ?_ rfl rfl
  refine Spec.of (fn := Tryd.f80) Tryd.func80 rfl (by kernel_rfl) (rs := [.tmp 2]) rfl 1 (by simp [Tryd.f80]) rfl (by simp) ?_
  intro hreal
  rintro ⟨P, T, L0, w0, ι0, C0, U0⟩ hP hT hU
  subst hP hT
  refine st ?_
  all_goals first
  | fail_if_success with_reducible refine atR 0 ?_
  | (
    refine rg 0 [] [some 2] 1 ?_
    all_goals refine qP ?_
    all_goals refine qE ?_)
  all_goals first
  | fail_if_success with_reducible refine atR 1 ?_
  | (
    refine rg 1 [] [some 3, some 4] 2 ?_
    all_goals iterate 2 refine qP ?_
    all_goals refine qE ?_)
  all_goals first
  | fail_if_success with_reducible refine atC 4 ?_
  | (
    refine cn 4 ?_ ?_ <;> intro hc4 <;> try (cases hc4; done)
    all_goals refine st ?_)
  all_goals try (exfalso; omega)
  all_goals first
  | fail_if_success with_reducible refine atR 2 ?_
  | (
    refine rg 2 [] [some 2] 1 ?_
    all_goals refine qP ?_
    all_goals refine qE ?_)
  all_goals first
  | fail_if_success with_reducible refine atR 3 ?_
  | (
    refine rg 3 [] [some 5, some 6] 2 ?_
    all_goals iterate 2 refine qP ?_
    all_goals refine qE ?_)
  all_goals first
  | fail_if_success with_reducible refine atC 6 ?_
  | (
    refine cn 6 ?_ ?_ <;> intro hc6 <;> try (cases hc6; done)
    all_goals refine st ?_)
  all_goals try (exfalso; omega)
  all_goals first
  | fail_if_success with_reducible refine atR 4 ?_
  | (
    refine rg 4 [] [some 7, some 8, some 9, some 10, some 2] 5 ?_
    all_goals iterate 5 refine qP ?_
    all_goals refine qE ?_)
  all_goals first
  | fail_if_success with_reducible refine atR 5 ?_
  | (
    refine rg 5 [] [some 11, some 12] 2 ?_
    all_goals iterate 2 refine qP ?_
    all_goals refine qE ?_)
  all_goals first
  | fail_if_success with_reducible refine atC 12 ?_
  | (
    refine cn 12 ?_ ?_ <;> intro hc12 <;> try (cases hc12; done)
    all_goals refine st ?_)
  all_goals try (exfalso; omega)
  all_goals first
  | fail_if_success with_reducible refine atR 6 ?_
  | (
    refine rg 6 [3] [some 13, some 14, some 15, some 16, some 17, some 2] 6 ?_
    all_goals iterate 4 refine qP ?_
    all_goals (
      refine qL_cons ?_
      intro R hR
      refine sm ?_
      first
      | (refine ⟨by simp, ?_⟩)
      | skip
      try rw [show strOfNums [IntKind.u8.wrap (IntKind.i64.wrap (48 + 0))] = ⟨#[48]⟩ from rfl]
      all_goals (refine hR _ ?_; clear hR R))
    all_goals refine qP ?_
    all_goals refine qE ?_)
  all_goals first
  | fail_if_success with_reducible refine atR 7 ?_
  | (
    refine rgD 7 [7] [some 18, some 19, some 20, some 21, some 22, some 23, some 24, some 25, some 26, some 27, some 2] 11 12 ?_
    intro av hav
    all_goals iterate 11 refine qP ?_
    all_goals refine qE ?_
    all_goals clear  hav av)
  all_goals first
  | fail_if_success with_reducible refine ret_fun (t := 2) ?_ ?_
  | (
    refine ret_fun (t := 2) ?_ (fun _ => rfl)
    first
    | exact cl
    | (
      try refine sm ?_
      all_goals (
       (first | rfl | (congr 2; done) | (congr 2; decide)))))

end
section
attribute [local go_sem] tsz9 tsz39 tel39 toNat_cast und9 und4 und5 und5b tsz44 tfld44 tsz3' sS tsz29 tel29 und3 iz5 nums8
theorem l1Dec_1  : Fun Tryd.prog 80 [.d (.int .i64 1)] (.d (.str ⟨#[49]⟩)) := by
  refine Fun.of ?_ rfl rfl
  refine Spec.of (fn := Tryd.f80) Tryd.func80 rfl (by kernel_rfl) (rs := [.tmp 2]) rfl 1 (by simp [Tryd.f80]) rfl (by simp) ?_
  intro hreal
  rintro ⟨P, T, L0, w0, ι0, C0, U0⟩ hP hT hU
  subst hP hT
  refine st ?_
  all_goals first
  | fail_if_success with_reducible refine atR 0 ?_
  | (
    refine rg 0 [] [some 2] 1 ?_
    all_goals refine qP ?_
    all_goals refine qE ?_)
  all_goals first
  | fail_if_success with_reducible refine atR 1 ?_
  | (
    refine rg 1 [] [some 3, some 4] 2 ?_
    all_goals iterate 2 refine qP ?_
    all_goals refine qE ?_)
  all_goals first
  | fail_if_success with_reducible refine atC 4 ?_
  | (
    refine cn 4 ?_ ?_ <;> intro hc4 <;> try (cases hc4; done)
    all_goals refine st ?_)
  all_goals try (exfalso; omega)
  all_goals first
  | fail_if_success with_reducible refine atR 2 ?_
  | (
    refine rg 2 [] [some 2] 1 ?_
    all_goals refine qP ?_
    all_goals refine qE ?_)
  all_goals first
  | fail_if_success with_reducible refine atR 3 ?_
  | (
    refine rg 3 [] [some 5, some 6] 2 ?_
    all_goals iterate 2 refine qP ?_
    all_goals refine qE ?_)
  all_goals first
  | fail_if_success with_reducible refine atC 6 ?_
  | (
    refine cn 6 ?_ ?_ <;> intro hc6 <;> try (cases hc6; done)
    all_goals refine st ?_)
  all_goals try (exfalso; omega)
  all_goals first
  | fail_if_success with_reducible refine atR 4 ?_
  | (
    refine rg 4 [] [some 7, some 8, some 9, some 10, some 2] 5 ?_
    all_goals iterate 5 refine qP ?_
    all_goals refine qE ?_)
  all_goals first
  | fail_if_success with_reducible refine atR 5 ?_
  | (
    refine rg 5 [] [some 11, some 12] 2 ?_
    all_goals iterate 2 refine qP ?_
    all_goals refine qE ?_)
  all_goals first
  | fail_if_success with_reducible refine atC 12 ?_
  | (
    refine cn 12 ?_ ?_ <;> intro hc12 <;> try (cases hc12; done)
    all_goals refine st ?_)
  all_goals try (exfalso; omega)
  all_goals first
  | fail_if_success with_reducible refine atR 6 ?_
  | (
    refine rg 6 [3] [some 13, some 14, some 15, some 16, some 17, some 2] 6 ?_
    all_goals iterate 4 refine qP ?_
    all_goals (
      refine qL_cons ?_
      intro R hR
      refine sm ?_
      first
      | (refine ⟨by simp, ?_⟩)
      | skip
      try rw [show strOfNums [IntKind.u8.wrap (IntKind.i64.wrap (48 + 1))] = ⟨#[49]⟩ from rfl]
      all_goals (refine hR _ ?_; clear hR R))
    all_goals refine qP ?_
    all_goals refine qE ?_)
  all_goals first
  | fail_if_success with_reducible refine atR 7 ?_
  | (
    refine rgD 7 [7] [some 18, some 19, some 20, some 21, some 22, some 23, some 24, some 25, some 26, some 27, some 2] 11 12 ?_
    intro av hav
    all_goals iterate 11 refine qP ?_
    all_goals refine qE ?_
    all_goals clear  hav av)
  all_goals first
  | fail_if_success with_reducible refine ret_fun (t := 2) ?_ ?_
  | (
    refine ret_fun (t := 2) ?_ (fun _ => rfl)
    first
    | exact cl
    | (
      try refine sm ?_
      all_goals (
       (first | rfl | (congr 2; done) | (congr 2; decide)))))

end
section
attribute [local go_sem] tsz9 tsz39 tel39 toNat_cast und9 und4 und5 und5b tsz44 tfld44 tsz3' sS tsz29 tel29 und3 iz5 nums8
theorem l1Dec_2  : Fun Tryd.prog 80 [.d (.int .i64 2)] (.d (.str ⟨#[50]⟩)) := by
  refine Fun.of ?_ rfl rfl
  refine Spec.of (fn := Tryd.f80) Tryd.func80 rfl (by kernel_rfl) (rs := [.tmp 2]) rfl 1 (by simp [Tryd.f80]) rfl (by simp) ?_
  intro hreal
  rintro ⟨P, T, L0, w0, ι0, C0, U0⟩ hP hT hU
  subst hP hT
  refine st ?_
  all_goals first
  | fail_if_success with_reducible refine atR 0 ?_
  | (
    refine rg 0 [] [some 2] 1 ?_
    all_goals refine qP ?_
    all_goals refine qE ?_)
  all_goals first
  | fail_if_success with_reducible refine atR 1 ?_
  | (
    refine rg 1 [] [some 3, some 4] 2 ?_
    all_goals iterate 2 refine qP ?_
    all_goals refine qE ?_)
  all_goals first
  | fail_if_success with_reducible refine atC 4 ?_
  | (
    refine cn 4 ?_ ?_ <;> intro hc4 <;> try (cases hc4; done)
    all_goals refine st ?_)
  all_goals try (exfalso; omega)
  all_goals first
  | fail_if_success with_reducible refine atR 2 ?_
  | (
    refine rg 2 [] [some 2] 1 ?_
    all_goals refine qP ?_
    all_goals refine qE ?_)
  all_goals first
  | fail_if_success with_reducible refine atR 3 ?_
  | (
    refine rg 3 [] [some 5, some 6] 2 ?_
    all_goals iterate 2 refine qP ?_
    all_goals refine qE ?_)
  all_goals first
  | fail_if_success with_reducible refine atC 6 ?_
  | (
    refine cn 6 ?_ ?_ <;> intro hc6 <;> try (cases hc6; done)
    all_goals refine st ?_)
  all_goals try (exfalso; omega)
  all_goals first
  | fail_if_success with_reducible refine atR 4 ?_
  | (
    refine rg 4 [] [some 7, some 8, some 9, some 10, some 2] 5 ?_
    all_goals iterate 5 refine qP ?_
    all_goals refine qE ?_)
  all_goals first
  | fail_if_success with_reducible refine atR 5 ?_
  | (
    refine rg 5 [] [some 11, some 12] 2 ?_
    all_goals iterate 2 refine qP ?_
    all_goals refine qE ?_)
  all_goals first
  | fail_if_success with_reducible refine atC 12 ?_
  | (
    refine cn 12 ?_ ?_ <;> intro hc12 <;> try (cases hc12; done)
    all_goals refine st ?_)
  all_goals try (exfalso; omega)
  all_goals first
  | fail_if_success with_reducible refine atR 6 ?_
  | (
    refine rg 6 [3] [some 13, some 14, some 15, some 16, some 17, some 2] 6 ?_
    all_goals iterate 4 refine qP ?_
    all_goals (
      refine qL_cons ?_
      intro R hR
      refine sm ?_
      first
      | (refine ⟨by simp, ?_⟩)
      | skip
      try rw [show strOfNums [IntKind.u8.wrap (IntKind.i64.wrap (48 + 2))] = ⟨#[50]⟩ from rfl]
      all_goals (refine hR _ ?_; clear hR R))
    all_goals refine qP ?_
    all_goals refine qE ?_)
  all_goals first
  | fail_if_success with_reducible refine atR 7 ?_
  | (
    refine rgD 7 [7] [some 18, some 19, some 20, some 21, some 22, some 23, some 24, some 25, some 26, some 27, some 2] 11 12 ?_
    intro av hav
    all_goals iterate 11 refine qP ?_
    all_goals refine qE ?_
    all_goals clear  hav av)
  all_goals first
  | fail_if_success with_reducible refine ret_fun (t := 2) ?_ ?_
  | (
    refine ret_fun (t := 2) ?_ (fun _ => rfl)
    first
    | exact cl
    | (
      try refine sm ?_
      all_goals (
       (first | rfl | (congr 2; done) | (congr 2; decide)))))

end
section
attribute [local go_sem] tsz9 tsz39 tel39 toNat_cast und9 und4 und5 und5b tsz44 tfld44 tsz3' sS tsz29 tel29 und3 iz5 nums8
theorem l1Dec_3  : Fun Tryd.prog 80 [.d (.int .i64 3)] (.d (.str ⟨#[51]⟩)) := by
  refine Fun.of ?_ rfl rfl
  refine Spec.of (fn := Tryd.f80) Tryd.func80 rfl (by kernel_rfl) (rs := [.tmp 2]) rfl 1 (by simp [Tryd.f80]) rfl (by simp) ?_
  intro hreal
  rintro ⟨P, T, L0, w0, ι0, C0, U0⟩ hP hT hU
  subst hP hT
  refine st ?_
  all_goals first
  | fail_if_success with_reducible refine atR 0 ?_
  | (
    refine rg 0 [] [some 2] 1 ?_
    all_goals refine qP ?_
    all_goals refine qE ?_)
  all_goals first
  | fail_if_success with_reducible refine atR 1 ?_
  | (
    refine rg 1 [] [some 3, some 4] 2 ?_
    all_goals iterate 2 refine qP ?_
    all_goals refine qE ?_)
  all_goals first
  | fail_if_success with_reducible refine atC 4 ?_
  | (
    refine cn 4 ?_ ?_ <;> intro hc4 <;> try (cases hc4; done)
    all_goals refine st ?_)
  all_goals try (exfalso; omega)
  all_goals first
  | fail_if_success with_reducible refine atR 2 ?_
  | (
    refine rg 2 [] [some 2] 1 ?_
    all_goals refine qP ?_
    all_goals refine qE ?_)
  all_goals first
  | fail_if_success with_reducible refine atR 3 ?_
  | (
    refine rg 3 [] [some 5, some 6] 2 ?_
    all_goals iterate 2 refine qP ?_
    all_goals refine qE ?_)
  all_goals first
  | fail_if_success with_reducible refine atC 6 ?_
  | (
    refine cn 6 ?_ ?_ <;> intro hc6 <;> try (cases hc6; done)
    all_goals refine st ?_)
  all_goals try (exfalso; omega)
  all_goals first
  | fail_if_success with_reducible refine atR 4 ?_
  | (
    refine rg 4 [] [some 7, some 8, some 9, some 10, some 2] 5 ?_
    all_goals iterate 5 refine qP ?_
    all_goals refine qE ?_)
  all_goals first
  | fail_if_success with_reducible refine atR 5 ?_
  | (
    refine rg 5 [] [some 11, some 12] 2 ?_
    all_goals iterate 2 refine qP ?_
    all_goals refine qE ?_)
  all_goals first
  | fail_if_success with_reducible refine atC 12 ?_
  | (
    refine cn 12 ?_ ?_ <;> intro hc12 <;> try (cases hc12; done)
    all_goals refine st ?_)
  all_goals try (exfalso; omega)
  all_goals first
  | fail_if_success with_reducible refine atR 6 ?_
  | (
    refine rg 6 [3] [some 13, some 14, some 15, some 16, some 17, some 2] 6 ?_
    all_goals iterate 4 refine qP ?_
    all_goals (
      refine qL_cons ?_
      intro R hR
      refine sm ?_
      first
      | (refine ⟨by simp, ?_⟩)
      | skip
      try rw [show strOfNums [IntKind.u8.wrap (IntKind.i64.wrap (48 + 3))] = ⟨#[51]⟩ from rfl]
      all_goals (refine hR _ ?_; clear hR R))
    all_goals refine qP ?_
    all_goals refine qE ?_)
  all_goals first
  | fail_if_success with_reducible refine atR 7 ?_
  | (
    refine rgD 7 [7] [some 18, some 19, some 20, some 21, some 22, some 23, some 24, some 25, some 26, some 27, some 2] 11 12 ?_
    intro av hav
    all_goals iterate 11 refine qP ?_
    all_goals refine qE ?_
    all_goals clear  hav av)
  all_goals first
  | fail_if_success with_reducible refine ret_fun (t := 2) ?_ ?_
  | (
    refine ret_fun (t := 2) ?_ (fun _ => rfl)
    first
    | exact cl
    | (
      try refine sm ?_
      all_goals (
       (first | rfl | (congr 2; done) | (congr 2; decide)))))

end
section
attribute [local go_sem] tsz9 tsz39 tel39 toNat_cast und9 und4 und5 und5b tsz44 tfld44 tsz3' sS tsz29 tel29 und3 iz5 nums8
theorem l1Dec_4  : Fun Tryd.prog 80 [.d (.int .i64 4)] (.d (.str ⟨#[52]⟩)) := by
  refine Fun.of ?_ rfl rfl
  refine Spec.of (fn := Tryd.f80) Tryd.func80 rfl (by kernel_rfl) (rs := [.tmp 2]) rfl 1 (by simp [Tryd.f80]) rfl (by simp) ?_
  intro hreal
  rintro ⟨P, T, L0, w0, ι0, C0, U0⟩ hP hT hU
  subst hP hT
  refine st ?_
  all_goals first
  | fail_if_success with_reducible refine atR 0 ?_
  | (
    refine rg 0 [] [some 2] 1 ?_
    all_goals refine qP ?_
    all_goals refine qE ?_)
  all_goals first
  | fail_if_success with_reducible refine atR 1 ?_
  | (
    refine rg 1 [] [some 3, some 4] 2 ?_
    all_goals iterate 2 refine qP ?_
    all_goals refine qE ?_)
  all_goals first
  | fail_if_success with_reducible refine atC 4 ?_
  | (
    refine cn 4 ?_ ?_ <;> intro hc4 <;> try (cases hc4; done)
    all_goals refine st ?_)
  all_goals try (exfalso; omega)
  all_goals first
  | fail_if_success with_reducible refine atR 2 ?_
  | (
    refine rg 2 [] [some 2] 1 ?_
    all_goals refine qP ?_
    all_goals refine qE ?_)
  all_goals first
  | fail_if_success with_reducible refine atR 3 ?_
  | (
    refine rg 3 [] [some 5, some 6] 2 ?_
    all_goals iterate 2 refine qP ?_
    all_goals refine qE ?_)
  all_goals first
  | fail_if_success with_reducible refine atC 6 ?_
  | (
    refine cn 6 ?_ ?_ <;> intro hc6 <;> try (cases hc6; done)
    all_goals refine st ?_)
  all_goals try (exfalso; omega)
  all_goals first
  | fail_if_success with_reducible refine atR 4 ?_
  | (
    refine rg 4 [] [some 7, some 8, some 9, some 10, some 2] 5 ?_
    all_goals iterate 5 refine qP ?_
    all_goals refine qE ?_)
  all_goals first
  | fail_if_success with_reducible refine atR 5 ?_
  | (
    refine rg 5 [] [some 11, some 12] 2 ?_
    all_goals iterate 2 refine qP ?_
    all_goals refine qE ?_)
  all_goals first
  | fail_if_success with_reducible refine atC 12 ?_
  | (
    refine cn 12 ?_ ?_ <;> intro hc12 <;> try (cases hc12; done)
    all_goals refine st ?_)
  all_goals try (exfalso; omega)
  all_goals first
  | fail_if_success with_reducible refine atR 6 ?_
  | (
    refine rg 6 [3] [some 13, some 14, some 15, some 16, some 17, some 2] 6 ?_
    all_goals iterate 4 refine qP ?_
    all_goals (
      refine qL_cons ?_
      intro R hR
      refine sm ?_
      first
      | (refine ⟨by simp, ?_⟩)
      | skip
      try rw [show strOfNums [IntKind.u8.wrap (IntKind.i64.wrap (48 + 4))] = ⟨#[52]⟩ from rfl]
      all_goals (refine hR _ ?_; clear hR R))
    all_goals refine qP ?_
    all_goals refine qE ?_)
  all_goals first
  | fail_if_success with_reducible refine atR 7 ?_
  | (
    refine rgD 7 [7] [some 18, some 19, some 20, some 21, some 22, some 23, some 24, some 25, some 26, some 27, some 2] 11 12 ?_
    intro av hav
    all_goals iterate 11 refine qP ?_
    all_goals refine qE ?_
    all_goals clear  hav av)
  all_goals first
  | fail_if_success with_reducible refine ret_fun (t := 2) ?_ ?_
  | (
    refine ret_fun (t := 2) ?_ (fun _ => rfl)
    first
    | exact cl
    | (
      try refine sm ?_
      all_goals (
       (first | rfl | (congr 2; done) | (congr 2; decide)))))

end
section
attribute [local go_sem] tsz9 tsz39 tel39 toNat_cast und9 und4 und5 und5b tsz44 tfld44 tsz3' sS tsz29 tel29 und3 iz5 nums8
theorem l1Dec_5  : Fun Tryd.prog 80 [.d (.int .i64 5)] (.d (.str ⟨#[53]⟩)) := by
  refine Fun.of ?_ rfl rfl
  refine Spec.of (fn := Tryd.f80) Tryd.func80 rfl (by kernel_rfl) (rs := [.tmp 2]) rfl 1 (by simp [Tryd.f80]) rfl (by simp) ?_
  intro hreal
  rintro ⟨P, T, L0, w0, ι0, C0, U0⟩ hP hT hU
  subst hP hT
  refine st ?_
  all_goals first
  | fail_if_success with_reducible refine atR 0 ?_
  | (
    refine rg 0 [] [some 2] 1 ?_
    all_goals refine qP ?_
    all_goals refine qE ?_)
  all_goals first
  | fail_if_success with_reducible refine atR 1 ?_
  | (
    refine rg 1 [] [some 3, some 4] 2 ?_
    all_goals iterate 2 refine qP ?_
    all_goals refine qE ?_)
  all_goals first
  | fail_if_success with_reducible refine atC 4 ?_
  | (
    refine cn 4 ?_ ?_ <;> intro hc4 <;> try (cases hc4; done)
    all_goals refine st ?_)
  all_goals try (exfalso; omega)
  all_goals first
  | fail_if_success with_reducible refine atR 2 ?_
  | (
    refine rg 2 [] [some 2] 1 ?_
    all_goals refine qP ?_
    all_goals refine qE ?_)
  all_goals first
  | fail_if_success with_reducible refine atR 3 ?_
  | (
    refine rg 3 [] [some 5, some 6] 2 ?_
    all_goals iterate 2 refine qP ?_
    all_goals refine qE ?_)
  all_goals first
  | fail_if_success with_reducible refine atC 6 ?_
  | (
    refine cn 6 ?_ ?_ <;> intro hc6 <;> try (cases hc6; done)
    all_goals refine st ?_)
  all_goals try (exfalso; omega)
  all_goals first
  | fail_if_success with_reducible refine atR 4 ?_
  | (
    refine rg 4 [] [some 7, some 8, some 9, some 10, some 2] 5 ?_
    all_goals iterate 5 refine qP ?_
    all_goals refine qE ?_)
  all_goals first
  | fail_if_success with_reducible refine atR 5 ?_
  | (
    refine rg 5 [] [some 11, some 12] 2 ?_
    all_goals iterate 2 refine qP ?_
    all_goals refine qE ?_)
  all_goals first
  | fail_if_success with_reducible refine atC 12 ?_
  | (
    refine cn 12 ?_ ?_ <;> intro hc12 <;> try (cases hc12; done)
    all_goals refine st ?_)
  all_goals try (exfalso; omega)
  all_goals first
  | fail_if_success with_reducible refine atR 6 ?_
  | (
    refine rg 6 [3] [some 13, some 14, some 15, some 16, some 17, some 2] 6 ?_
    all_goals iterate 4 refine qP ?_
    all_goals (
      refine qL_cons ?_
      intro R hR
      refine sm ?_
      first
      | (refine ⟨by simp, ?_⟩)
      | skip
      try rw [show strOfNums [IntKind.u8.wrap (IntKind.i64.wrap (48 + 5))] = ⟨#[53]⟩ from rfl]
      all_goals (refine hR _ ?_; clear hR R))
    all_goals refine qP ?_
    all_goals refine qE ?_)
  all_goals first
  | fail_if_success with_reducible refine atR 7 ?_
  | (
    refine rgD 7 [7] [some 18, some 19, some 20, some 21, some 22, some 23, some 24, some 25, some 26, some 27, some 2] 11 12 ?_
    intro av hav
    all_goals iterate 11 refine qP ?_
    all_goals refine qE ?_
    all_goals clear  hav av)
  all_goals first
  | fail_if_success with_reducible refine ret_fun (t := 2) ?_ ?_
  | (
    refine ret_fun (t := 2) ?_ (fun _ => rfl)
    first
    | exact cl
    | (
      try refine sm ?_
      all_goals (
       (first | rfl | (congr 2; done) | (congr 2; decide)))))

end
section
attribute [local go_sem] tsz9 tsz39 tel39 toNat_cast und9 und4 und5 und5b tsz44 tfld44 tsz3' sS tsz29 tel29 und3 iz5 nums8
theorem l1Dec_6  : Fun Tryd.prog 80 [.d (.int .i64 6)] (.d (.str ⟨#[54]⟩)) := by
  refine Fun.of ?_ rfl rfl
  refine Spec.of (fn := Tryd.f80) Tryd.func80 rfl (by kernel_rfl) (rs := [.tmp 2]) rfl 1 (by simp [Tryd.f80]) rfl (by simp) ?_
  intro hreal
  rintro ⟨P, T, L0, w0, ι0, C0, U0⟩ hP hT hU
  subst hP hT
  refine st ?_
  all_goals first
  | fail_if_success with_reducible refine atR 0 ?_
  | (
    refine rg 0 [] [some 2] 1 ?_
    all_goals refine qP ?_
    all_goals refine qE ?_)
  all_goals first
  | fail_if_success with_reducible refine atR 1 ?_
  | (
    refine rg 1 [] [some 3, some 4] 2 ?_
    all_goals iterate 2 refine qP ?_
    all_goals refine qE ?_)
  all_goals first
  | fail_if_success with_reducible refine atC 4 ?_
  | (
    refine cn 4 ?_ ?_ <;> intro hc4 <;> try (cases hc4; done)
    all_goals refine st ?_)
  all_goals try (exfalso; omega)
  all_goals first
  | fail_if_success with_reducible refine atR 2 ?_
  | (
    refine rg 2 [] [some 2] 1 ?_
    all_goals refine qP ?_
    all_goals refine qE ?_)
  all_goals first
  | fail_if_success with_reducible refine atR 3 ?_
  | (
    refine rg 3 [] [some 5, some 6] 2 ?_
    all_goals iterate 2 refine qP ?_
    all_goals refine qE ?_)
  all_goals first
  | fail_if_success with_reducible refine atC 6 ?_
  | (
    refine cn 6 ?_ ?_ <;> intro hc6 <;> try (cases hc6; done)
    all_goals refine st ?_)
  all_goals try (exfalso; omega)
  all_goals first
  | fail_if_success with_reducible refine atR 4 ?_
  | (
    refine rg 4 [] [some 7, some 8, some 9, some 10, some 2] 5 ?_
    all_goals iterate 5 refine qP ?_
    all_goals refine qE ?_)
  all_goals first
  | fail_if_success with_reducible refine atR 5 ?_
  | (
    refine rg 5 [] [some 11, some 12] 2 ?_
    all_goals iterate 2 refine qP ?_
    all_goals refine qE ?_)
  all_goals first
  | fail_if_success with_reducible refine atC 12 ?_
  | (
    refine cn 12 ?_ ?_ <;> intro hc12 <;> try (cases hc12; done)
    all_goals refine st ?_)
  all_goals try (exfalso; omega)
  all_goals first
  | fail_if_success with_reducible refine atR 6 ?_
  | (
    refine rg 6 [3] [some 13, some 14, some 15, some 16, some 17, some 2] 6 ?_
    all_goals iterate 4 refine qP ?_
    all_goals (
      refine qL_cons ?_
      intro R hR
      refine sm ?_
      first
      | (refine ⟨by simp, ?_⟩)
      | skip
      try rw [show strOfNums [IntKind.u8.wrap (IntKind.i64.wrap (48 + 6))] = ⟨#[54]⟩ from rfl]
      all_goals (refine hR _ ?_; clear hR R))
    all_goals refine qP ?_
    all_goals refine qE ?_)
  all_goals first
  | fail_if_success with_reducible refine atR 7 ?_
  | (
    refine rgD 7 [7] [some 18, some 19, some 20, some 21, some 22, some 23, some 24, some 25, some 26, some 27, some 2] 11 12 ?_
    intro av hav
    all_goals iterate 11 refine qP ?_
    all_goals refine qE ?_
    all_goals clear  hav av)
  all_goals first
  | fail_if_success with_reducible refine ret_fun (t := 2) ?_ ?_
  | (
    refine ret_fun (t := 2) ?_ (fun _ => rfl)
    first
    | exact cl
    | (
      try refine sm ?_
      all_goals (
       (first | rfl | (congr 2; done) | (congr 2; decide)))))

end
section
attribute [local go_sem] tsz9 tsz39 tel39 toNat_cast und9 und4 und5 und5b tsz44 tfld44 tsz3' sS tsz29 tel29 und3 iz5 nums8
theorem l1Dec_7  : Fun Tryd.prog 80 [.d (.int .i64 7)] (.d (.str ⟨#[55]⟩)) := by
  refine Fun.of ?_ rfl rfl
  refine Spec.of (fn := Tryd.f80) Tryd.func80 rfl (by kernel_rfl) (rs := [.tmp 2]) rfl 1 (by simp [Tryd.f80]) rfl (by simp) ?_
  intro hreal
  rintro ⟨P, T, L0, w0, ι0, C0, U0⟩ hP hT hU
  subst hP hT
  refine st ?_
  all_goals first
  | fail_if_success with_reducible refine atR 0 ?_
  | (
    refine rg 0 [] [some 2] 1 ?_
    all_goals refine qP ?_
    all_goals refine qE ?_)
  all_goals first
  | fail_if_success with_reducible refine atR 1 ?_
  | (
    refine rg 1 [] [some 3, some 4] 2 ?_
    all_goals iterate 2 refine qP ?_
    all_goals refine qE ?_)
  all_goals first
  | fail_if_success with_reducible refine atC 4 ?_
  | (
    refine cn 4 ?_ ?_ <;> intro hc4 <;> try (cases hc4; done)
    all_goals refine st ?_)
  all_goals try (exfalso; omega)
  all_goals first
  | fail_if_success with_reducible refine atR 2 ?_
  | (
    refine rg 2 [] [some 2] 1 ?_
    all_goals refine qP ?_
    all_goals refine qE ?_)
  all_goals first
  | fail_if_success with_reducible refine atR 3 ?_
  | (
    refine rg 3 [] [some 5, some 6] 2 ?_
    all_goals iterate 2 refine qP ?_
    all_goals refine qE ?_)
  all_goals first
  | fail_if_success with_reducible refine atC 6 ?_
  | (
    refine cn 6 ?_ ?_ <;> intro hc6 <;> try (cases hc6; done)
    all_goals refine st ?_)
  all_goals try (exfalso; omega)
  all_goals first
  | fail_if_success with_reducible refine atR 4 ?_
  | (
    refine rg 4 [] [some 7, some 8, some 9, some 10, some 2] 5 ?_
    all_goals iterate 5 refine qP ?_
    all_goals refine qE ?_)
  all_goals first
  | fail_if_success with_reducible refine atR 5 ?_
  | (
    refine rg 5 [] [some 11, some 12] 2 ?_
    all_goals iterate 2 refine qP ?_
    all_goals refine qE ?_)
  all_goals first
  | fail_if_success with_reducible refine atC 12 ?_
  | (
    refine cn 12 ?_ ?_ <;> intro hc12 <;> try (cases hc12; done)
    all_goals refine st ?_)
  all_goals try (exfalso; omega)
  all_goals first
  | fail_if_success with_reducible refine atR 6 ?_
  | (
    refine rg 6 [3] [some 13, some 14, some 15, some 16, some 17, some 2] 6 ?_
    all_goals iterate 4 refine qP ?_
    all_goals (
      refine qL_cons ?_
      intro R hR
      refine sm ?_
      first
      | (refine ⟨by simp, ?_⟩)
      | skip
      try rw [show strOfNums [IntKind.u8.wrap (IntKind.i64.wrap (48 + 7))] = ⟨#[55]⟩ from rfl]
      all_goals (refine hR _ ?_; clear hR R))
    all_goals refine qP ?_
    all_goals refine qE ?_)
  all_goals first
  | fail_if_success with_reducible refine atR 7 ?_
  | (
    refine rgD 7 [7] [some 18, some 19, some 20, some 21, some 22, some 23, some 24, some 25, some 26, some 27, some 2] 11 12 ?_
    intro av hav
    all_goals iterate 11 refine qP ?_
    all_goals refine qE ?_
    all_goals clear  hav av)
  all_goals first
  | fail_if_success with_reducible refine ret_fun (t := 2) ?_ ?_
  | (
    refine ret_fun (t := 2) ?_ (fun _ => rfl)
    first
    | exact cl
    | (
      try refine sm ?_
      all_goals (
       (first | rfl | (congr 2; done) | (congr 2; decide)))))

end
section
attribute [local go_sem] tsz9 tsz39 tel39 toNat_cast und9 und4 und5 und5b tsz44 tfld44 tsz3' sS tsz29 tel29 und3 iz5 nums8
theorem l1Dec_8  : Fun Tryd.prog 80 [.d (.int .i64 8)] (.d (.str ⟨#[56]⟩)) := by
  refine Fun.of ?_ rfl rfl
  refine Spec.of (fn := Tryd.f80) Tryd.func80 rfl (by kernel_rfl) (rs := [.tmp 2]) rfl 1 (by simp [Tryd.f80]) rfl (by simp) ?_
  intro hreal
  rintro ⟨P, T, L0, w0, ι0, C0, U0⟩ hP hT hU
  subst hP hT
  refine st ?_
  all_goals first
  | fail_if_success with_reducible refine atR 0 ?_
  | (
    refine rg 0 [] [some 2] 1 ?_
    all_goals refine qP ?_
    all_goals refine qE ?_)
  all_goals first
  | fail_if_success with_reducible refine atR 1 ?_
  | (
    refine rg 1 [] [some 3, some 4] 2 ?_
    all_goals iterate 2 refine qP ?_
    all_goals refine qE ?_)
  all_goals first
  | fail_if_success with_reducible refine atC 4 ?_
  | (
    refine cn 4 ?_ ?_ <;> intro hc4 <;> try (cases hc4; done)
    all_goals refine st ?_)
  all_goals try (exfalso; omega)
  all_goals first
  | fail_if_success with_reducible refine atR 2 ?_
  | (
    refine rg 2 [] [some 2] 1 ?_
    all_goals refine qP ?_
    all_goals refine qE ?_)
  all_goals first
  | fail_if_success with_reducible refine atR 3 ?_
  | (
    refine rg 3 [] [some 5, some 6] 2 ?_
    all_goals iterate 2 refine qP ?_
    all_goals refine qE ?_)
  all_goals first
  | fail_if_success with_reducible refine atC 6 ?_
  | (
    refine cn 6 ?_ ?_ <;> intro hc6 <;> try (cases hc6; done)
    all_goals refine st ?_)
  all_goals try (exfalso; omega)
  all_goals first
  | fail_if_success with_reducible refine atR 4 ?_
  | (
    refine rg 4 [] [some 7, some 8, some 9, some 10, some 2] 5 ?_
    all_goals iterate 5 refine qP ?_
    all_goals refine qE ?_)
  all_goals first
  | fail_if_success with_reducible refine atR 5 ?_
  | (
    refine rg 5 [] [some 11, some 12] 2 ?_
    all_goals iterate 2 refine qP ?_
    all_goals refine qE ?_)
  all_goals first
  | fail_if_success with_reducible refine atC 12 ?_
  | (
    refine cn 12 ?_ ?_ <;> intro hc12 <;> try (cases hc12; done)
    all_goals refine st ?_)
  all_goals try (exfalso; omega)
  all_goals first
  | fail_if_success with_reducible refine atR 6 ?_
  | (
    refine rg 6 [3] [some 13, some 14, some 15, some 16, some 17, some 2] 6 ?_
    all_goals iterate 4 refine qP ?_
    all_goals (
      refine qL_cons ?_
      intro R hR
      refine sm ?_
      first
      | (refine ⟨by simp, ?_⟩)
      | skip
      try rw [show strOfNums [IntKind.u8.wrap (IntKind.i64.wrap (48 + 8))] = ⟨#[56]⟩ from rfl]
      all_goals (refine hR _ ?_; clear hR R))
    all_goals refine qP ?_
    all_goals refine qE ?_)
  all_goals first
  | fail_if_success with_reducible refine atR 7 ?_
  | (
    refine rgD 7 [7] [some 18, some 19, some 20, some 21, some 22, some 23, some 24, some 25, some 26, some 27, some 2] 11 12 ?_
    intro av hav
    all_goals iterate 11 refine qP ?_
    all_goals refine qE ?_
    all_goals clear  hav av)
  all_goals first
  | fail_if_success with_reducible refine ret_fun (t := 2) ?_ ?_
  | (
    refine ret_fun (t := 2) ?_ (fun _ => rfl)
    first
    | exact cl
    | (
      try refine sm ?_
      all_goals (
       (first | rfl | (congr 2; done) | (congr 2; decide)))))

end
section
attribute [local go_sem] tsz9 tsz39 tel39 toNat_cast und9 und4 und5 und5b tsz44 tfld44 tsz3' sS tsz29 tel29 und3 iz5 nums8
theorem l1Dec_9  : Fun Tryd.prog 80 [.d (.int .i64 9)] (.d (.str ⟨#[57]⟩)) := by
  refine Fun.of ?_ rfl rfl
  refine Spec.of (fn := Tryd.f80) Tryd.func80 rfl (by kernel_rfl) (rs := [.tmp 2]) rfl 1 (by simp [Tryd.f80]) rfl (by simp) ?_
  intro hreal
  rintro ⟨P, T, L0, w0, ι0, C0, U0⟩ hP hT hU
  subst hP hT
  refine st ?_
  all_goals first
  | fail_if_success with_reducible refine atR 0 ?_
  | (
    refine rg 0 [] [some 2] 1 ?_
    all_goals refine qP ?_
    all_goals refine qE ?_)
  all_goals first
  | fail_if_success with_reducible refine atR 1 ?_
  | (
    refine rg 1 [] [some 3, some 4] 2 ?_
    all_goals iterate 2 refine qP ?_
    all_goals refine qE ?_)
  all_goals first
  | fail_if_success with_reducible refine atC 4 ?_
  | (
    refine cn 4 ?_ ?_ <;> intro hc4 <;> try (cases hc4; done)
    all_goals refine st ?_)
  all_goals try (exfalso; omega)
  all_goals first
  | fail_if_success with_reducible refine atR 2 ?_
  | (
    refine rg 2 [] [some 2] 1 ?_
    all_goals refine qP ?_
    all_goals refine qE ?_)
  all_goals first
  | fail_if_success with_reducible refine atR 3 ?_
  | (
    refine rg 3 [] [some 5, some 6] 2 ?_
    all_goals iterate 2 refine qP ?_
    all_goals refine qE ?_)
  all_goals first
  | fail_if_success with_reducible refine atC 6 ?_
  | (
    refine cn 6 ?_ ?_ <;> intro hc6 <;> try (cases hc6; done)
    all_goals refine st ?_)
  all_goals try (exfalso; omega)
  all_goals first
  | fail_if_success with_reducible refine atR 4 ?_
  | (
    refine rg 4 [] [some 7, some 8, some 9, some 10, some 2] 5 ?_
    all_goals iterate 5 refine qP ?_
    all_goals refine qE ?_)
  all_goals first
  | fail_if_success with_reducible refine atR 5 ?_
  | (
    refine rg 5 [] [some 11, some 12] 2 ?_
    all_goals iterate 2 refine qP ?_
    all_goals refine qE ?_)
  all_goals first
  | fail_if_success with_reducible refine atC 12 ?_
  | (
    refine cn 12 ?_ ?_ <;> intro hc12 <;> try (cases hc12; done)
    all_goals refine st ?_)
  all_goals try (exfalso; omega)
  all_goals first
  | fail_if_success with_reducible refine atR 6 ?_
  | (
    refine rg 6 [3] [some 13, some 14, some 15, some 16, some 17, some 2] 6 ?_
    all_goals iterate 4 refine qP ?_
    all_goals (
      refine qL_cons ?_
      intro R hR
      refine sm ?_
      first
      | (refine ⟨by simp, ?_⟩)
      | skip
      try rw [show strOfNums [IntKind.u8.wrap (IntKind.i64.wrap (48 + 9))] = ⟨#[57]⟩ from rfl]
      all_goals (refine hR _ ?_; clear hR R))
    all_goals refine qP ?_
    all_goals refine qE ?_)
  all_goals first
  | fail_if_success with_reducible refine atR 7 ?_
  | (
    refine rgD 7 [7] [some 18, some 19, some 20, some 21, some 22, some 23, some 24, some 25, some 26, some 27, some 2] 11 12 ?_
    intro av hav
    all_goals iterate 11 refine qP ?_
    all_goals refine qE ?_
    all_goals clear  hav av)
  all_goals first
  | fail_if_success with_reducible refine ret_fun (t := 2) ?_ ?_
  | (
    refine ret_fun (t := 2) ?_ (fun _ => rfl)
    first
    | exact cl
    | (
      try refine sm ?_
      all_goals (
       (first | rfl | (congr 2; done) | (congr 2; decide)))))

end
section
attribute [local go_sem] tsz9 tsz39 tel39 toNat_cast und9 und4 und5 und5b tsz44 tfld44 tsz3' sS tsz29 tel29 und3 iz5 nums8
theorem l1Dec_10  : Fun Tryd.prog 80 [.d (.int .i64 10)] (.d (.str ⟨#[49, 48]⟩)) := by
  refine Fun.of ?_ rfl rfl
  refine Spec.of (fn := Tryd.f80) Tryd.func80 rfl (by kernel_rfl) (rs := [.tmp 2]) rfl 1 (by simp [Tryd.f80]) rfl (by simp) ?_
  intro hreal
  rintro ⟨P, T, L0, w0, ι0, C0, U0⟩ hP hT hU
  subst hP hT
  refine st ?_
  all_goals first
  | fail_if_success with_reducible refine atR 0 ?_
  | (
    refine rg 0 [] [some 2] 1 ?_
    all_goals refine qP ?_
    all_goals refine qE ?_)
  all_goals first
  | fail_if_success with_reducible refine atR 1 ?_
  | (
    refine rg 1 [] [some 3, some 4] 2 ?_
    all_goals iterate 2 refine qP ?_
    all_goals refine qE ?_)
  all_goals first
  | fail_if_success with_reducible refine atC 4 ?_
  | (
    refine cn 4 ?_ ?_ <;> intro hc4 <;> try (cases hc4; done)
    all_goals refine st ?_)
  all_goals try (exfalso; omega)
  all_goals first
  | fail_if_success with_reducible refine atR 2 ?_
  | (
    refine rg 2 [] [some 2] 1 ?_
    all_goals refine qP ?_
    all_goals refine qE ?_)
  all_goals first
  | fail_if_success with_reducible refine atR 3 ?_
  | (
    refine rg 3 [] [some 5, some 6] 2 ?_
    all_goals iterate 2 refine qP ?_
    all_goals refine qE ?_)
  all_goals first
  | fail_if_success with_reducible refine atC 6 ?_
  | (
    refine cn 6 ?_ ?_ <;> intro hc6 <;> try (cases hc6; done)
    all_goals refine st ?_)
  all_goals try (exfalso; omega)
  all_goals first
  | fail_if_success with_reducible refine atR 4 ?_
  | (
    refine rg 4 [] [some 7, some 8, some 9, some 10, some 2] 5 ?_
    all_goals iterate 5 refine qP ?_
    all_goals refine qE ?_)
  all_goals first
  | fail_if_success with_reducible refine atR 5 ?_
  | (
    refine rg 5 [] [some 11, some 12] 2 ?_
    all_goals iterate 2 refine qP ?_
    all_goals refine qE ?_)
  all_goals first
  | fail_if_success with_reducible refine atC 12 ?_
  | (
    refine cn 12 ?_ ?_ <;> intro hc12 <;> try (cases hc12; done)
    all_goals refine st ?_)
  all_goals try (exfalso; omega)
  all_goals first
  | fail_if_success with_reducible refine atR 6 ?_
  | (
    refine rg 6 [3] [some 13, some 14, some 15, some 16, some 17, some 2] 6 ?_
    all_goals iterate 4 refine qP ?_
    all_goals (
      refine qL_cons ?_
      intro R hR
      refine sm ?_
      first
      | (refine ⟨by simp, ?_⟩)
      | skip
      try rw [show strOfNums [IntKind.u8.wrap (IntKind.i64.wrap (48 + 10))] = ⟨#[48]⟩ from rfl]
      all_goals (refine hR _ ?_; clear hR R))
    all_goals refine qP ?_
    all_goals refine qE ?_)
  all_goals first
  | fail_if_success with_reducible refine atR 7 ?_
  | (
    refine rgD 7 [7] [some 18, some 19, some 20, some 21, some 22, some 23, some 24, some 25, some 26, some 27, some 2] 11 12 ?_
    intro av hav
    all_goals iterate 2 refine qP ?_
    all_goals (
      refine qL_cons ?_
      intro R hR
      refine sm ?_
      refine call_fun (l1Dec_1) [] ?_ (.inl rfl) ?_
      · exact ⟨.inl rfl, trivial⟩
      refine sm ?_
      all_goals (refine hR _ ?_; clear hR R))
    all_goals iterate 5 refine qP ?_
    all_goals (
      refine qL_cons ?_
      intro R hR
      refine sm ?_
      first
      | (refine ⟨by simp, ?_⟩)
      | skip
      try rw [show strOfNums [IntKind.u8.wrap (IntKind.i64.wrap (48 + IntKind.i64.wrap (Int.tmod 10 10)))] = ⟨#[48]⟩ from rfl]
      all_goals (refine hR _ ?_; clear hR R))
    all_goals (
      refine qL_cons ?_
      intro R hR
      refine sm ?_
      first
      | refine ⟨by decide, ?_⟩
      | skip
      all_goals (refine hR _ ?_; clear hR R))
    all_goals refine qP ?_
    all_goals refine qE ?_
    all_goals clear  hav av)
  all_goals first
  | fail_if_success with_reducible refine ret_fun (t := 2) ?_ ?_
  | (
    refine ret_fun (t := 2) ?_ (fun _ => rfl)
    first
    | exact cl
    | (
      try refine sm ?_
      all_goals (
       (first | rfl | (congr 2; done) | (congr 2; decide)))))

end
section
attribute [local go_sem] tsz9 tsz39 tel39 toNat_cast und9 und4 und5 und5b tsz44 tfld44 tsz3' sS tsz29 tel29 und3 iz5 nums8
theorem l1Dec_11  : Fun Tryd.prog 80 [.d (.int .i64 11)] (.d (.str ⟨#[49, 49]⟩)) := by
  refine Fun.of ?_ rfl rfl
  refine Spec.of (fn := Tryd.f80) Tryd.func80 rfl (by kernel_rfl) (rs := [.tmp 2]) rfl 1 (by simp [Tryd.f80]) rfl (by simp) ?_
  intro hreal
  rintro ⟨P, T, L0, w0, ι0, C0, U0⟩ hP hT hU
  subst hP hT
  refine st ?_
  all_goals first
  | fail_if_success with_reducible refine atR 0 ?_
  | (
    refine rg 0 [] [some 2] 1 ?_
    all_goals refine qP ?_
    all_goals refine qE ?_)
  all_goals first
  | fail_if_success with_reducible refine atR 1 ?_
  | (
    refine rg 1 [] [some 3, some 4] 2 ?_
    all_goals iterate 2 refine qP ?_
    all_goals refine qE ?_)
  all_goals first
  | fail_if_success with_reducible refine atC 4 ?_
  | (
    refine cn 4 ?_ ?_ <;> intro hc4 <;> try (cases hc4; done)
    all_goals refine st ?_)
  all_goals try (exfalso; omega)
  all_goals first
  | fail_if_success with_reducible refine atR 2 ?_
  | (
    refine rg 2 [] [some 2] 1 ?_
    all_goals refine qP ?_
    all_goals refine qE ?_)
  all_goals first
  | fail_if_success with_reducible refine atR 3 ?_
  | (
    refine rg 3 [] [some 5, some 6] 2 ?_
    all_goals iterate 2 refine qP ?_
    all_goals refine qE ?_)
  all_goals first
  | fail_if_success with_reducible refine atC 6 ?_
  | (
    refine cn 6 ?_ ?_ <;> intro hc6 <;> try (cases hc6; done)
    all_goals refine st ?_)
  all_goals try (exfalso; omega)
  all_goals first
  | fail_if_success with_reducible refine atR 4 ?_
  | (
    refine rg 4 [] [some 7, some 8, some 9, some 10, some 2] 5 ?_
    all_goals iterate 5 refine qP ?_
    all_goals refine qE ?_)
  all_goals first
  | fail_if_success with_reducible refine atR 5 ?_
  | (
    refine rg 5 [] [some 11, some 12] 2 ?_
    all_goals iterate 2 refine qP ?_
    all_goals refine qE ?_)
  all_goals first
  | fail_if_success with_reducible refine atC 12 ?_
  | (
    refine cn 12 ?_ ?_ <;> intro hc12 <;> try (cases hc12; done)
    all_goals refine st ?_)
  all_goals try (exfalso; omega)
  all_goals first
  | fail_if_success with_reducible refine atR 6 ?_
  | (
    refine rg 6 [3] [some 13, some 14, some 15, some 16, some 17, some 2] 6 ?_
    all_goals iterate 4 refine qP ?_
    all_goals (
      refine qL_cons ?_
      intro R hR
      refine sm ?_
      first
      | (refine ⟨by simp, ?_⟩)
      | skip
      try rw [show strOfNums [IntKind.u8.wrap (IntKind.i64.wrap (48 + 11))] = ⟨#[49]⟩ from rfl]
      all_goals (refine hR _ ?_; clear hR R))
    all_goals refine qP ?_
    all_goals refine qE ?_)
  all_goals first
  | fail_if_success with_reducible refine atR 7 ?_
  | (
    refine rgD 7 [7] [some 18, some 19, some 20, some 21, some 22, some 23, some 24, some 25, some 26, some 27, some 2] 11 12 ?_
    intro av hav
    all_goals iterate 2 refine qP ?_
    all_goals (
      refine qL_cons ?_
      intro R hR
      refine sm ?_
      refine call_fun (l1Dec_1) [] ?_ (.inl rfl) ?_
      · exact ⟨.inl rfl, trivial⟩
      refine sm ?_
      all_goals (refine hR _ ?_; clear hR R))
    all_goals iterate 5 refine qP ?_
    all_goals (
      refine qL_cons ?_
      intro R hR
      refine sm ?_
      first
      | (refine ⟨by simp, ?_⟩)
      | skip
      try rw [show strOfNums [IntKind.u8.wrap (IntKind.i64.wrap (48 + IntKind.i64.wrap (Int.tmod 11 10)))] = ⟨#[49]⟩ from rfl]
      all_goals (refine hR _ ?_; clear hR R))
    all_goals (
      refine qL_cons ?_
      intro R hR
      refine sm ?_
      first
      | refine ⟨by decide, ?_⟩
      | skip
      all_goals (refine hR _ ?_; clear hR R))
    all_goals refine qP ?_
    all_goals refine qE ?_
    all_goals clear  hav av)
  all_goals first
  | fail_if_success with_reducible refine ret_fun (t := 2) ?_ ?_
  | (
    refine ret_fun (t := 2) ?_ (fun _ => rfl)
    first
    | exact cl
    | (
      try refine sm ?_
      all_goals (
       (first | rfl | (congr 2; done) | (congr 2; decide)))))

end
section
attribute [local go_sem] tsz9 tsz39 tel39 toNat_cast und9 und4 und5 und5b tsz44 tfld44 tsz3' sS tsz29 tel29 und3 iz5 nums8
theorem l1Dec_12  : Fun Tryd.prog 80 [.d (.int .i64 12)] (.d (.str ⟨#[49, 50]⟩)) := by
  refine Fun.of ?_ rfl rfl
  refine Spec.of (fn := Tryd.f80) Tryd.func80 rfl (by kernel_rfl) (rs := [.tmp 2]) rfl 1 (by simp [Tryd.f80]) rfl (by simp) ?_
  intro hreal
  rintro ⟨P, T, L0, w0, ι0, C0, U0⟩ hP hT hU
  subst hP hT
  refine st ?_
  all_goals first
  | fail_if_success with_reducible refine atR 0 ?_
  | (
    refine rg 0 [] [some 2] 1 ?_
    all_goals refine qP ?_
    all_goals refine qE ?_)
  all_goals first
  | fail_if_success with_reducible refine atR 1 ?_
  | (
    refine rg 1 [] [some 3, some 4] 2 ?_
    all_goals iterate 2 refine qP ?_
    all_goals refine qE ?_)
  all_goals first
  | fail_if_success with_reducible refine atC 4 ?_
  | (
    refine cn 4 ?_ ?_ <;> intro hc4 <;> try (cases hc4; done)
    all_goals refine st ?_)
  all_goals try (exfalso; omega)
  all_goals first
  | fail_if_success with_reducible refine atR 2 ?_
  | (
    refine rg 2 [] [some 2] 1 ?_
    all_goals refine qP ?_
    all_goals refine qE ?_)
  all_goals first
  | fail_if_success with_reducible refine atR 3 ?_
  | (
    refine rg 3 [] [some 5, some 6] 2 ?_
    all_goals iterate 2 refine qP ?_
    all_goals refine qE ?_)
  all_goals first
  | fail_if_success with_reducible refine atC 6 ?_
  | (
    refine cn 6 ?_ ?_ <;> intro hc6 <;> try (cases hc6; done)
    all_goals refine st ?_)
  all_goals try (exfalso; omega)
  all_goals first
  | fail_if_success with_reducible refine atR 4 ?_
  | (
    refine rg 4 [] [some 7, some 8, some 9, some 10, some 2] 5 ?_
    all_goals iterate 5 refine qP ?_
    all_goals refine qE ?_)
  all_goals first
  | fail_if_success with_reducible refine atR 5 ?_
  | (
    refine rg 5 [] [some 11, some 12] 2 ?_
    all_goals iterate 2 refine qP ?_
    all_goals refine qE ?_)
  all_goals first
  | fail_if_success with_reducible refine atC 12 ?_
  | (
    refine cn 12 ?_ ?_ <;> intro hc12 <;> try (cases hc12; done)
    all_goals refine st ?_)
  all_goals try (exfalso; omega)
  all_goals first
  | fail_if_success with_reducible refine atR 6 ?_
  | (
    refine rg 6 [3] [some 13, some 14, some 15, some 16, some 17, some 2] 6 ?_
    all_goals iterate 4 refine qP ?_
    all_goals (
      refine qL_cons ?_
      intro R hR
      refine sm ?_
      first
      | (refine ⟨by simp, ?_⟩)
      | skip
      try rw [show strOfNums [IntKind.u8.wrap (IntKind.i64.wrap (48 + 12))] = ⟨#[50]⟩ from rfl]
      all_goals (refine hR _ ?_; clear hR R))
    all_goals refine qP ?_
    all_goals refine qE ?_)
  all_goals first
  | fail_if_success with_reducible refine atR 7 ?_
  | (
    refine rgD 7 [7] [some 18, some 19, some 20, some 21, some 22, some 23, some 24, some 25, some 26, some 27, some 2] 11 12 ?_
    intro av hav
    all_goals iterate 2 refine qP ?_
    all_goals (
      refine qL_cons ?_
      intro R hR
      refine sm ?_
      refine call_fun (l1Dec_1) [] ?_ (.inl rfl) ?_
      · exact ⟨.inl rfl, trivial⟩
      refine sm ?_
      all_goals (refine hR _ ?_; clear hR R))
    all_goals iterate 5 refine qP ?_
    all_goals (
      refine qL_cons ?_
      intro R hR
      refine sm ?_
      first
      | (refine ⟨by simp, ?_⟩)
      | skip
      try rw [show strOfNums [IntKind.u8.wrap (IntKind.i64.wrap (48 + IntKind.i64.wrap (Int.tmod 12 10)))] = ⟨#[50]⟩ from rfl]
      all_goals (refine hR _ ?_; clear hR R))
    all_goals (
      refine qL_cons ?_
      intro R hR
      refine sm ?_
      first
      | refine ⟨by decide, ?_⟩
      | skip
      all_goals (refine hR _ ?_; clear hR R))
    all_goals refine qP ?_
    all_goals refine qE ?_
    all_goals clear  hav av)
  all_goals first
  | fail_if_success with_reducible refine ret_fun (t := 2) ?_ ?_
  | (
    refine ret_fun (t := 2) ?_ (fun _ => rfl)
    first
    | exact cl
    | (
      try refine sm ?_
      all_goals (
       (first | rfl | (congr 2; done) | (congr 2; decide)))))

end
section
attribute [local go_sem] tsz9 tsz39 tel39 toNat_cast und9 und4 und5 und5b tsz44 tfld44 tsz3' sS tsz29 tel29 und3 iz5 nums8
theorem l1Dec_13  : Fun Tryd.prog 80 [.d (.int .i64 13)] (.d (.str ⟨#[49, 51]⟩)) := by
  refine Fun.of ?_ rfl rfl
  refine Spec.of (fn := Tryd.f80) Tryd.func80 rfl (by kernel_rfl) (rs := [.tmp 2]) rfl 1 (by simp [Tryd.f80]) rfl (by simp) ?_
  intro hreal
  rintro ⟨P, T, L0, w0, ι0, C0, U0⟩ hP hT hU
  subst hP hT
  refine st ?_
  all_goals first
  | fail_if_success with_reducible refine atR 0 ?_
  | (
    refine rg 0 [] [some 2] 1 ?_
    all_goals refine qP ?_
    all_goals refine qE ?_)
  all_goals first
  | fail_if_success with_reducible refine atR 1 ?_
  | (
    refine rg 1 [] [some 3, some 4] 2 ?_
    all_goals iterate 2 refine qP ?_
    all_goals refine qE ?_)
  all_goals first
  | fail_if_success with_reducible refine atC 4 ?_
  | (
    refine cn 4 ?_ ?_ <;> intro hc4 <;> try (cases hc4; done)
    all_goals refine st ?_)
  all_goals try (exfalso; omega)
  all_goals first
  | fail_if_success with_reducible refine atR 2 ?_
  | (
    refine rg 2 [] [some 2] 1 ?_
    all_goals refine qP ?_
    all_goals refine qE ?_)
  all_goals first
  | fail_if_success with_reducible refine atR 3 ?_
  | (
    refine rg 3 [] [some 5, some 6] 2 ?_
    all_goals iterate 2 refine qP ?_
    all_goals refine qE ?_)
  all_goals first
  | fail_if_success with_reducible refine atC 6 ?_
  | (
    refine cn 6 ?_ ?_ <;> intro hc6 <;> try (cases hc6; done)
    all_goals refine st ?_)
  all_goals try (exfalso; omega)
  all_goals first
  | fail_if_success with_reducible refine atR 4 ?_
  | (
    refine rg 4 [] [some 7, some 8, some 9, some 10, some 2] 5 ?_
    all_goals iterate 5 refine qP ?_
    all_goals refine qE ?_)
  all_goals first
  | fail_if_success with_reducible refine atR 5 ?_
  | (
    refine rg 5 [] [some 11, some 12] 2 ?_
    all_goals iterate 2 refine qP ?_
    all_goals refine qE ?_)
  all_goals first
  | fail_if_success with_reducible refine atC 12 ?_
  | (
    refine cn 12 ?_ ?_ <;> intro hc12 <;> try (cases hc12; done)
    all_goals refine st ?_)
  all_goals try (exfalso; omega)
  all_goals first
  | fail_if_success with_reducible refine atR 6 ?_
  | (
    refine rg 6 [3] [some 13, some 14, some 15, some 16, some 17, some 2] 6 ?_
    all_goals iterate 4 refine qP ?_
    all_goals (
      refine qL_cons ?_
      intro R hR
      refine sm ?_
      first
      | (refine ⟨by simp, ?_⟩)
      | skip
      try rw [show strOfNums [IntKind.u8.wrap (IntKind.i64.wrap (48 + 13))] = ⟨#[51]⟩ from rfl]
      all_goals (refine hR _ ?_; clear hR R))
    all_goals refine qP ?_
    all_goals refine qE ?_)
  all_goals first
  | fail_if_success with_reducible refine atR 7 ?_
  | (
    refine rgD 7 [7] [some 18, some 19, some 20, some 21, some 22, some 23, some 24, some 25, some 26, some 27, some 2] 11 12 ?_
    intro av hav
    all_goals iterate 2 refine qP ?_
    all_goals (
      refine qL_cons ?_
      intro R hR
      refine sm ?_
      refine call_fun (l1Dec_1) [] ?_ (.inl rfl) ?_
      · exact ⟨.inl rfl, trivial⟩
      refine sm ?_
      all_goals (refine hR _ ?_; clear hR R))
    all_goals iterate 5 refine qP ?_
    all_goals (
      refine qL_cons ?_
      intro R hR
      refine sm ?_
      first
      | (refine ⟨by simp, ?_⟩)
      | skip
      try rw [show strOfNums [IntKind.u8.wrap (IntKind.i64.wrap (48 + IntKind.i64.wrap (Int.tmod 13 10)))] = ⟨#[51]⟩ from rfl]
      all_goals (refine hR _ ?_; clear hR R))
    all_goals (
      refine qL_cons ?_
      intro R hR
      refine sm ?_
      first
      | refine ⟨by decide, ?_⟩
      | skip
      all_goals (refine hR _ ?_; clear hR R))
    all_goals refine qP ?_
    all_goals refine qE ?_
    all_goals clear  hav av)
  all_goals first
  | fail_if_success with_reducible refine ret_fun (t := 2) ?_ ?_
  | (
    refine ret_fun (t := 2) ?_ (fun _ => rfl)
    first
    | exact cl
    | (
      try refine sm ?_
      all_goals (
       (first | rfl | (congr 2; done) | (congr 2; decide)))))

end
section
attribute [local go_sem] tsz9 tsz39 tel39 toNat_cast und9 und4 und5 und5b tsz44 tfld44 tsz3' sS tsz29 tel29 und3 iz5 nums8
theorem l1Dec_14  : Fun Tryd.prog 80 [.d (.int .i64 14)] (.d (.str ⟨#[49, 52]⟩)) := by
  refine Fun.of ?_ rfl rfl
  refine Spec.of (fn := Tryd.f80) Tryd.func80 rfl (by kernel_rfl) (rs := [.tmp 2]) rfl 1 (by simp [Tryd.f80]) rfl (by simp) ?_
  intro hreal
  rintro ⟨P, T, L0, w0, ι0, C0, U0⟩ hP hT hU
  subst hP hT
  refine st ?_
  all_goals first
  | fail_if_success with_reducible refine atR 0 ?_
  | (
    refine rg 0 [] [some 2] 1 ?_
    all_goals refine qP ?_
    all_goals refine qE ?_)
  all_goals first
  | fail_if_success with_reducible refine atR 1 ?_
  | (
    refine rg 1 [] [some 3, some 4] 2 ?_
    all_goals iterate 2 refine qP ?_
    all_goals refine qE ?_)
  all_goals first
  | fail_if_success with_reducible refine atC 4 ?_
  | (
    refine cn 4 ?_ ?_ <;> intro hc4 <;> try (cases hc4; done)
    all_goals refine st ?_)
  all_goals try (exfalso; omega)
  all_goals first
  | fail_if_success with_reducible refine atR 2 ?_
  | (
    refine rg 2 [] [some 2] 1 ?_
    all_goals refine qP ?_
    all_goals refine qE ?_)
  all_goals first
  | fail_if_success with_reducible refine atR 3 ?_
  | (
    refine rg 3 [] [some 5, some 6] 2 ?_
    all_goals iterate 2 refine qP ?_
    all_goals refine qE ?_)
  all_goals first
  | fail_if_success with_reducible refine atC 6 ?_
  | (
    refine cn 6 ?_ ?_ <;> intro hc6 <;> try (cases hc6; done)
    all_goals refine st ?_)
  all_goals try (exfalso; omega)
  all_goals first
  | fail_if_success with_reducible refine atR 4 ?_
  | (
    refine rg 4 [] [some 7, some 8, some 9, some 10, some 2] 5 ?_
    all_goals iterate 5 refine qP ?_
    all_goals refine qE ?_)
  all_goals first
  | fail_if_success with_reducible refine atR 5 ?_
  | (
    refine rg 5 [] [some 11, some 12] 2 ?_
    all_goals iterate 2 refine qP ?_
    all_goals refine qE ?_)
  all_goals first
  | fail_if_success with_reducible refine atC 12 ?_
  | (
    refine cn 12 ?_ ?_ <;> intro hc12 <;> try (cases hc12; done)
    all_goals refine st ?_)
  all_goals try (exfalso; omega)
  all_goals first
  | fail_if_success with_reducible refine atR 6 ?_
  | (
    refine rg 6 [3] [some 13, some 14, some 15, some 16, some 17, some 2] 6 ?_
    all_goals iterate 4 refine qP ?_
    all_goals (
      refine qL_cons ?_
      intro R hR
      refine sm ?_
      first
      | (refine ⟨by simp, ?_⟩)
      | skip
      try rw [show strOfNums [IntKind.u8.wrap (IntKind.i64.wrap (48 + 14))] = ⟨#[52]⟩ from rfl]
      all_goals (refine hR _ ?_; clear hR R))
    all_goals refine qP ?_
    all_goals refine qE ?_)
  all_goals first
  | fail_if_success with_reducible refine atR 7 ?_
  | (
    refine rgD 7 [7] [some 18, some 19, some 20, some 21, some 22, some 23, some 24, some 25, some 26, some 27, some 2] 11 12 ?_
    intro av hav
    all_goals iterate 2 refine qP ?_
    all_goals (
      refine qL_cons ?_
      intro R hR
      refine sm ?_
      refine call_fun (l1Dec_1) [] ?_ (.inl rfl) ?_
      · exact ⟨.inl rfl, trivial⟩
      refine sm ?_
      all_goals (refine hR _ ?_; clear hR R))
    all_goals iterate 5 refine qP ?_
    all_goals (
      refine qL_cons ?_
      intro R hR
      refine sm ?_
      first
      | (refine ⟨by simp, ?_⟩)
      | skip
      try rw [show strOfNums [IntKind.u8.wrap (IntKind.i64.wrap (48 + IntKind.i64.wrap (Int.tmod 14 10)))] = ⟨#[52]⟩ from rfl]
      all_goals (refine hR _ ?_; clear hR R))
    all_goals (
      refine qL_cons ?_
      intro R hR
      refine sm ?_
      first
      | refine ⟨by decide, ?_⟩
      | skip
      all_goals (refine hR _ ?_; clear hR R))
    all_goals refine qP ?_
    all_goals refine qE ?_
    all_goals clear  hav av)
  all_goals first
  | fail_if_success with_reducible refine ret_fun (t := 2) ?_ ?_
  | (
    refine ret_fun (t := 2) ?_ (fun _ => rfl)
    first
    | exact cl
    | (
      try refine sm ?_
      all_goals (
       (first | rfl | (congr 2; done) | (congr 2; decide)))))

end
section
attribute [local go_sem] tsz9 tsz39 tel39 toNat_cast und9 und4 und5 und5b tsz44 tfld44 tsz3' sS tsz29 tel29 und3 iz5 nums8
theorem l1Dec_15  : Fun Tryd.prog 80 [.d (.int .i64 15)] (.d (.str ⟨#[49, 53]⟩)) := by
  refine Fun.of ?_ rfl rfl
  refine Spec.of (fn := Tryd.f80) Tryd.func80 rfl (by kernel_rfl) (rs := [.tmp 2]) rfl 1 (by simp [Tryd.f80]) rfl (by simp) ?_
  intro hreal
  rintro ⟨P, T, L0, w0, ι0, C0, U0⟩ hP hT hU
  subst hP hT
  refine st ?_
  all_goals first
  | fail_if_success with_reducible refine atR 0 ?_
  | (
    refine rg 0 [] [some 2] 1 ?_
    all_goals refine qP ?_
    all_goals refine qE ?_)
  all_goals first
  | fail_if_success with_reducible refine atR 1 ?_
  | (
    refine rg 1 [] [some 3, some 4] 2 ?_
    all_goals iterate 2 refine qP ?_
    all_goals refine qE ?_)
  all_goals first
  | fail_if_success with_reducible refine atC 4 ?_
  | (
    refine cn 4 ?_ ?_ <;> intro hc4 <;> try (cases hc4; done)
    all_goals refine st ?_)
  all_goals try (exfalso; omega)
  all_goals first
  | fail_if_success with_reducible refine atR 2 ?_
  | (
    refine rg 2 [] [some 2] 1 ?_
    all_goals refine qP ?_
    all_goals refine qE ?_)
  all_goals first
  | fail_if_success with_reducible refine atR 3 ?_
  | (
    refine rg 3 [] [some 5, some 6] 2 ?_
    all_goals iterate 2 refine qP ?_
    all_goals refine qE ?_)
  all_goals first
  | fail_if_success with_reducible refine atC 6 ?_
  | (
    refine cn 6 ?_ ?_ <;> intro hc6 <;> try (cases hc6; done)
    all_goals refine st ?_)
  all_goals try (exfalso; omega)
  all_goals first
  | fail_if_success with_reducible refine atR 4 ?_
  | (
    refine rg 4 [] [some 7, some 8, some 9, some 10, some 2] 5 ?_
    all_goals iterate 5 refine qP ?_
    all_goals refine qE ?_)
  all_goals first
  | fail_if_success with_reducible refine atR 5 ?_
  | (
    refine rg 5 [] [some 11, some 12] 2 ?_
    all_goals iterate 2 refine qP ?_
    all_goals refine qE ?_)
  all_goals first
  | fail_if_success with_reducible refine atC 12 ?_
  | (
    refine cn 12 ?_ ?_ <;> intro hc12 <;> try (cases hc12; done)
    all_goals refine st ?_)
  all_goals try (exfalso; omega)
  all_goals first
  | fail_if_success with_reducible refine atR 6 ?_
  | (
    refine rg 6 [3] [some 13, some 14, some 15, some 16, some 17, some 2] 6 ?_
    all_goals iterate 4 refine qP ?_
    all_goals (
      refine qL_cons ?_
      intro R hR
      refine sm ?_
      first
      | (refine ⟨by simp, ?_⟩)
      | skip
      try rw [show strOfNums [IntKind.u8.wrap (IntKind.i64.wrap (48 + 15))] = ⟨#[53]⟩ from rfl]
      all_goals (refine hR _ ?_; clear hR R))
    all_goals refine qP ?_
    all_goals refine qE ?_)
  all_goals first
  | fail_if_success with_reducible refine atR 7 ?_
  | (
    refine rgD 7 [7] [some 18, some 19, some 20, some 21, some 22, some 23, some 24, some 25, some 26, some 27, some 2] 11 12 ?_
    intro av hav
    all_goals iterate 2 refine qP ?_
    all_goals (
      refine qL_cons ?_
      intro R hR
      refine sm ?_
      refine call_fun (l1Dec_1) [] ?_ (.inl rfl) ?_
      · exact ⟨.inl rfl, trivial⟩
      refine sm ?_
      all_goals (refine hR _ ?_; clear hR R))
    all_goals iterate 5 refine qP ?_
    all_goals (
      refine qL_cons ?_
      intro R hR
      refine sm ?_
      first
      | (refine ⟨by simp, ?_⟩)
      | skip
      try rw [show strOfNums [IntKind.u8.wrap (IntKind.i64.wrap (48 + IntKind.i64.wrap (Int.tmod 15 10)))] = ⟨#[53]⟩ from rfl]
      all_goals (refine hR _ ?_; clear hR R))
    all_goals (
      refine qL_cons ?_
      intro R hR
      refine sm ?_
      first
      | refine ⟨by decide, ?_⟩
      | skip
      all_goals (refine hR _ ?_; clear hR R))
    all_goals refine qP ?_
    all_goals refine qE ?_
    all_goals clear  hav av)
  all_goals first
  | fail_if_success with_reducible refine ret_fun (t := 2) ?_ ?_
  | (
    refine ret_fun (t := 2) ?_ (fun _ => rfl)
    first
    | exact cl
    | (
      try refine sm ?_
      all_goals (
       (first | rfl | (congr 2; done) | (congr 2; decide)))))

theorem small_spec (n : Int) (h0 : 0 ≤ n) (h1 : n ≤ 15) : Fun Tryd.prog 106 [.d (.int .i64 n)] (.d (.str (decB n))) := by
  have : n = 0 ∨ n = 1 ∨ n = 2 ∨ n = 3 ∨ n = 4 ∨ n = 5 ∨ n = 6 ∨ n = 7 ∨ n = 8 ∨ n = 9 ∨ n = 10 ∨ n = 11 ∨ n = 12 ∨ n = 13 ∨ n = 14 ∨ n = 15 := by omega
  rcases this with rfl | rfl | rfl | rfl | rfl | rfl | rfl | rfl | rfl | rfl | rfl | rfl | rfl | rfl | rfl | rfl
  · exact small_0
  · exact small_1
  · exact small_2
  · exact small_3
  · exact small_4
  · exact small_5
  · exact small_6
  · exact small_7
  · exact small_8
  · exact small_9
  · exact small_10
  · exact small_11
  · exact small_12
  · exact small_13
  · exact small_14
  · exact small_15
theorem l1Dec_spec (n : Int) (h0 : 0 ≤ n) (h1 : n ≤ 15) : Fun Tryd.prog 80 [.d (.int .i64 n)] (.d (.str (decB n))) := by
  have : n = 0 ∨ n = 1 ∨ n = 2 ∨ n = 3 ∨ n = 4 ∨ n = 5 ∨ n = 6 ∨ n = 7 ∨ n = 8 ∨ n = 9 ∨ n = 10 ∨ n = 11 ∨ n = 12 ∨ n = 13 ∨ n = 14 ∨ n = 15 := by omega
  rcases this with rfl | rfl | rfl | rfl | rfl | rfl | rfl | rfl | rfl | rfl | rfl | rfl | rfl | rfl | rfl | rfl
  · exact l1Dec_0
  · exact l1Dec_1
  · exact l1Dec_2
  · exact l1Dec_3
  · exact l1Dec_4
  · exact l1Dec_5
  · exact l1Dec_6
  · exact l1Dec_7
  · exact l1Dec_8
  · exact l1Dec_9
  · exact l1Dec_10
  · exact l1Dec_11
  · exact l1Dec_12
  · exact l1Dec_13
  · exact l1Dec_14
  · exact l1Dec_15
end
section
attribute [local go_sem] tsz9 tsz39 tel39 toNat_cast und9 und4 und5 und5b tsz44 tfld44 tsz3' sS tsz2
theorem FormatInt_spec (n : Int) (h0 : 0 ≤ n) (h1 : n ≤ 15) : Fun Tryd.prog 90 [.d (.int .i64 n), .d (.int .i64 10)] (.d (.str (decB n))) := by
  refine Fun.of ?_ rfl rfl
  refine Spec.of (fn := Tryd.f90) Tryd.func90 rfl (by kernel_rfl) (rs := [.tmp 4]) rfl 1 (by simp [Tryd.f90]) rfl (by simp) ?_
  intro hreal
  rintro ⟨P, T, L0, w0, ι0, C0, U0⟩ hP hT hU
  subst hP hT
  refine st ?_
  all_goals first
  | fail_if_success with_reducible refine atR 0 ?_
  | (
    refine rg 0 [] [some 4] 1 ?_
    all_goals refine qP ?_
    all_goals refine qE ?_)
  all_goals first
  | fail_if_success with_reducible refine atR 1 ?_
  | (
    refine rg 1 [] [some 10, some 11] 2 ?_
    all_goals iterate 2 refine qP ?_
    all_goals refine qE ?_)
  all_goals first
  | fail_if_success with_reducible refine atC 11 ?_
  | (
    refine cn 11 ?_ ?_ <;> intro hc11 <;> try (cases hc11; done)
    all_goals refine st ?_)
  all_goals try (exfalso; omega)
  all_goals first
  | fail_if_success with_reducible refine atR 2 ?_
  | (
    refine rg 2 [] [some 12, some 13, some 14, some 15, some 16, some 17] 6 ?_
    all_goals iterate 3 refine qP ?_
    all_goals first | refine qU 14 ?_ | (refine qS 14 ?_ ?_ <;> intro hg2_2 <;> try (cases hg2_2; done))
    all_goals iterate 3 refine qP ?_
    all_goals refine qE ?_)
  all_goals first
  | fail_if_success with_reducible refine atC 17 ?_
  | (
    refine cn 17 ?_ ?_ <;> intro hc17 <;> try (cases hc17; done)
    all_goals refine st ?_)
  all_goals try (exfalso; omega)
  all_goals first
  | fail_if_success with_reducible refine atR 3 ?_
  | (
    refine rg 3 [] [some 18, some 19, some 4] 3 ?_
    all_goals refine qP ?_
    all_goals (
      refine qL_cons ?_
      intro R hR
      refine sm ?_
      refine call_fun (small_spec n h0 h1) [] ?_ (.inl rfl) ?_
      · exact ⟨.inl rfl, trivial⟩
      refine sm ?_
      all_goals (refine hR _ ?_; clear hR R))
    all_goals refine qP ?_
    all_goals refine qE ?_)
  all_goals first
  | fail_if_success with_reducible refine ret_fun (t := 4) ?_ ?_
  | (
    refine ret_fun (t := 4) ?_ (fun _ => rfl)
    first
    | exact cl
    | (
      try refine sm ?_
      all_goals (
       rfl)))

end
section
attribute [local go_sem] tsz9 tsz39 tel39 toNat_cast und9 und4 und5 und5b tsz44 tfld44 tsz3' sS
theorem Itoa0_spec (n : Int) (h0 : 0 ≤ n) (h1 : n ≤ 15) : Fun Tryd.prog 81 [.d (.int .i64 n)] (.d (.str (decB n))) := by
  refine Fun.of ?_ rfl rfl
  refine Spec.of (fn := Tryd.f81) Tryd.func81 rfl (by kernel_rfl) (rs := [.tmp 2]) rfl 1 (by simp [Tryd.f81]) rfl (by simp) ?_
  intro hreal
  rintro ⟨P, T, L0, w0, ι0, C0, U0⟩ hP hT hU
  subst hP hT
  refine st ?_
  all_goals first
  | fail_if_success with_reducible refine atR 0 ?_
  | (
    refine rg 0 [] [some 2] 1 ?_
    all_goals refine qP ?_
    all_goals refine qE ?_)
  all_goals first
  | fail_if_success with_reducible refine atR 1 ?_
  | (
    refine rg 1 [] [some 3, some 4, some 2] 3 ?_
    all_goals refine qP ?_
    all_goals (
      refine qL_cons ?_
      intro R hR
      refine sm ?_
      refine call_fun (FormatInt_spec n h0 h1) [] ?_ (.inl rfl) ?_
      · exact ⟨.inl rfl, ⟨.inl rfl, trivial⟩⟩
      refine sm ?_
      all_goals (refine hR _ ?_; clear hR R))
    all_goals refine qP ?_
    all_goals refine qE ?_)
  all_goals first
  | fail_if_success with_reducible refine ret_fun (t := 2) ?_ ?_
  | (
    refine ret_fun (t := 2) ?_ (fun _ => rfl)
    first
    | exact cl
    | (
      try refine sm ?_
      all_goals (
       rfl)))

end
section
attribute [local go_sem] tsz9 tsz39 tel39 toNat_cast und9 und4 und5 und5b tsz44 tfld44 tsz3' sS
theorem Itoa_spec (n : Int) (h0 : 0 ≤ n) (h1 : n ≤ 15) : Fun Tryd.prog 55 [.d (.int .i64 n)] (.d (.str (decB n))) := by
  refine Fun.of ?_ rfl rfl
  refine Spec.of (fn := Tryd.f55) Tryd.func55 rfl (by kernel_rfl) (rs := [.tmp 2]) rfl 1 (by simp [Tryd.f55]) rfl (by simp) ?_
  intro hreal
  rintro ⟨P, T, L0, w0, ι0, C0, U0⟩ hP hT hU
  subst hP hT
  refine st ?_
  all_goals first
  | fail_if_success with_reducible refine atR 0 ?_
  | (
    refine rg 0 [] [some 2] 1 ?_
    all_goals refine qP ?_
    all_goals refine qE ?_)
  all_goals first
  | fail_if_success with_reducible refine atR 1 ?_
  | (
    refine rg 1 [] [some 3, some 4, some 2] 3 ?_
    all_goals refine qP ?_
    all_goals (
      refine qL_cons ?_
      intro R hR
      refine sm ?_
      refine call_fun (Itoa0_spec n h0 h1) [] ?_ (.inl rfl) ?_
      · exact ⟨.inl rfl, trivial⟩
      refine sm ?_
      all_goals (refine hR _ ?_; clear hR R))
    all_goals refine qP ?_
    all_goals refine qE ?_)
  all_goals first
  | fail_if_success with_reducible refine ret_fun (t := 2) ?_ ?_
  | (
    refine ret_fun (t := 2) ?_ (fun _ => rfl)
    first
    | exact cl
    | (
      try refine sm ?_
      all_goals (
       rfl)))

end
end Go.Proofs.YtkbnkcdaiahoeaaDoor
