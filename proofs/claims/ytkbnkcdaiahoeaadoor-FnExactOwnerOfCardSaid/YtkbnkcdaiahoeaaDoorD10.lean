/- the law FnExactOwnersOk over data; who owns a path, of both; the law FnExactOwnerOf over data. No condition. -/
import Derived.Test.YtkbnkcdaiahoeaaDoorD4
import Derived.Test.YtkbnkcdaiahoeaaDoorD3
namespace Go.Proofs.YtkbnkcdaiahoeaaDoor
open Go Go.RowKit
set_option maxRecDepth 100000
set_option maxHeartbeats 4000000
set_option linter.unusedSimpArgs false
set_option linter.unusedVariables false
attribute [local go_sem] List.size_toArray Int.toNat_zero Nat.sub_zero size_mk top_val eq_self datL X.dat u8min u8max i64min i64max stepT gdO aop ev lit litOk putF fzX_false putO upd app List.contains_nil List.elem_nil aBin aInt aStr aBool aLen lenTy aBuiltin aLoad aTake aTakeX aStore splice aSlice aBd look_cons look_nil lookC_cons lookC_nil by_s by_C start_s start_C X.cells X.cell List.all_cons List.all_nil Bool.and_self Bool.not_true Bool.not_false false_implies true_implies forall_const and_true true_and and_self implies_true not_false_eq_true Nat.zero_add Nat.add_zero List.getD_cons_zero List.getD_cons_succ List.map_cons List.map_nil Option.bind_some Option.map_some Option.map_none List.getElem?_cons_zero List.getElem?_cons_succ List.length_cons List.length_nil List.drop_zero List.drop_succ_cons List.take_succ_cons List.take_zero List.cons_append List.nil_append List.append_nil D.of List.length_map all_get_map Option.isSome_some and_false false_and Nat.lt_add_one Nat.zero_lt_succ decide_true decide_false aPart aSl2 Nat.lt_irrefl fzX litEs List.contains_cons List.elem_cons Bool.true_or Bool.or_true Bool.false_or Bool.or_false beq_self_eq_true
theorem arg_bare {av : Nat → Prop} {C : Caps} {bor : List Nat} {x y : X} (h : x.bare = y) (ho : x.on (fun _ => false) = true) : aArg av C x y bor := by
  cases x <;> first | exact .inr h.symm | exact .inr (.inl h.symm) | (simp [X.on] at ho)
theorem szOw_path {v : Ow} {left : Int} (h0 : 0 ≤ left) (h : 0 ≤ szOw v left) : (v.path.size : Int) ≤ left := by
  simp only [szOw] at h
  split at h
  · omega
  · split at h
    · omega
    · omega
theorem szOws_hs {os : List Ow} {left : Int} (h0 : 0 ≤ left) (h1 : left ≤ 1000000) (h : 0 ≤ szOws os left) : ∀ o ∈ os, o.path.size ≤ 1000000 := by
  intro v hv
  obtain ⟨y, h2, h3, h4⟩ := szOws_mem h0 h v hv
  have := szOw_path h2 h4
  omega
section
attribute [local go_sem] tsz9 tsz35 tfld35 tel25 toNat_cast und9 und4 zero35 tsz53 tfld53 tel22
theorem ownersOk_law (os : List Ow) : Fun Tryd.prog 3 [.d (.of owX os)] (.d (.bool true)) := by
  refine Fun.of ?_ rfl rfl
  refine Spec.of (fn := Tryd.f3) Tryd.func3 rfl (by kernel_rfl) (rs := [.tmp 2]) rfl 1 (by simp [Tryd.f3]) rfl (by simp) ?_
  intro hreal
  rintro ⟨P, T, L0, w0, ι0, C0, U0⟩ hP hT hU
  subst hP hT
  refine st ?_
  all_goals first
  | fail_if_success with_reducible refine atR 0 ?_
  | (
    refine rg 0 [] [some 2] 1 ?_
    all_goals refine qP ?_
    all_goals refine qE ?_)
  all_goals first
  | fail_if_success with_reducible refine atR 1 ?_
  | (
    refine rg 1 [] [some 3] 1 ?_
    all_goals refine qP ?_
    all_goals refine qE ?_)
  all_goals first
  | fail_if_success with_reducible refine atR 2 ?_
  | (
    refine rg 2 [] [some 8, some 9, some 10, some 3] 4 ?_
    all_goals iterate 2 refine qP ?_
    all_goals (
      refine qL_cons ?_
      intro R hR
      refine sm ?_
      refine call_fun (szTOws os 1000000 (by omega) (by omega)) [] ?_ (.inl rfl) ?_
      · exact ⟨.inl rfl, ⟨.inl rfl, trivial⟩⟩
      refine sm ?_
      all_goals (refine hR _ ?_; clear hR R))
    all_goals refine qP ?_
    all_goals refine qE ?_)
  all_goals first
  | fail_if_success with_reducible refine atR 3 ?_
  | (
    refine rg 3 [] [some 11, some 12] 2 ?_
    all_goals iterate 2 refine qP ?_
    all_goals refine qE ?_)
  all_goals first
  | fail_if_success with_reducible refine atC 12 ?_
  | (
    refine cn 12 ?_ ?_ <;> intro hc12 <;> try (cases hc12; done)
    all_goals refine st ?_)
  all_goals try have hss : os.length ≤ 1000000 := by have := szOws_len (l := os) (left := 1000000) (by omega) (by omega); omega
  all_goals try have hel := szOws_hs (os := os) (left := 1000000) (by omega) (by omega) (by omega)
  all_goals first
  | fail_if_success with_reducible refine atR 4 ?_
  | (
    refine rg 4 [] [some 2] 1 ?_
    all_goals refine qP ?_
    all_goals refine qE ?_)
  all_goals first
  | fail_if_success with_reducible refine atR 5 ?_
  | (
    refine rg 5 [] [some 13, some 14, some 15, some 4] 4 ?_
    all_goals refine qP ?_
    all_goals (
      refine qL_cons ?_
      intro R hR
      refine sm ?_
      refine call_fun (toTOws os false hss (fun _ _ => trivial)) [] ?_ (.inl rfl) ?_
      · exact ⟨.inl rfl, ⟨.inl rfl, trivial⟩⟩
      refine sm ?_
      all_goals (refine hR _ ?_; clear hR R))
    all_goals (
      refine qL_cons ?_
      intro R hR
      refine sm ?_
      refine call_fun (specOwnersOk os hel) [] ?_ (.inl rfl) ?_
      · exact ⟨arg_bare (toOws_bare os false) (on_toOws _ os false), trivial⟩
      refine sm ?_
      all_goals (refine hR _ ?_; clear hR R))
    all_goals refine qP ?_
    all_goals refine qE ?_)
  all_goals first
  | fail_if_success with_reducible refine atR 6 ?_
  | (
    refine rg 6 [] [some 16, some 17, some 5] 3 ?_
    all_goals refine qP ?_
    all_goals (
      refine qL_cons ?_
      intro R hR
      refine sm ?_
      refine call_fun (toTOws os false hss (fun _ _ => trivial)) [] ?_ (.inl rfl) ?_
      · exact ⟨.inl rfl, ⟨.inl rfl, trivial⟩⟩
      refine sm ?_
      all_goals (refine hR _ ?_; clear hR R))
    all_goals refine qP ?_
    all_goals refine qE ?_)
  all_goals first
  | fail_if_success with_reducible refine atR 7 ?_
  | (
    refine rg 7 [] [some 18, some 19, some 6] 3 ?_
    all_goals refine qP ?_
    all_goals (
      refine qL_cons ?_
      intro R hR
      refine sm ?_
      refine call_fun (implOwnersOk os hel) [] ?_ (.inl rfl) ?_
      · exact ⟨arg_bare (toOws_bare os false) (on_toOws _ os false), trivial⟩
      refine sm ?_
      all_goals (refine hR _ ?_; clear hR R))
    all_goals refine qP ?_
    all_goals refine qE ?_)
  all_goals first
  | fail_if_success with_reducible refine atR 8 ?_
  | (
    refine rg 8 [] [some 20, some 21, some 22] 3 ?_
    all_goals iterate 3 refine qP ?_
    all_goals refine qE ?_)
  all_goals first
  | fail_if_success with_reducible refine atC 22 ?_
  | (
    refine cn 22 ?_ ?_ <;> intro hc22 <;> try (cases hc22; done)
    all_goals refine st ?_)
  all_goals first
  | fail_if_success with_reducible refine atR 9 ?_
  | (
    refine rg 9 [] [some 2] 1 ?_
    all_goals refine qP ?_
    all_goals refine qE ?_)
  all_goals first
  | fail_if_success with_reducible refine atR 10 ?_
  | (
    refine rg 10 [] [some 23, some 24, some 25, some 26, some 27] 5 ?_
    all_goals iterate 2 refine qP ?_
    all_goals (
      refine qL_cons ?_
      intro R hR
      refine sm ?_
      refine call_fun (toTOws os false hss (fun _ _ => trivial)) [] ?_ (.inl rfl) ?_
      · exact ⟨.inl rfl, ⟨.inl rfl, trivial⟩⟩
      refine sm ?_
      all_goals (refine hR _ ?_; clear hR R))
    all_goals (
      refine qL_cons ?_
      intro R hR
      refine sm ?_
      refine call_fun (inTOws os hss) [] ?_ (.inl rfl) ?_
      · exact ⟨.inl rfl, ⟨.inl rfl, trivial⟩⟩
      refine sm ?_
      all_goals (refine hR _ ?_; clear hR R))
    all_goals refine qP ?_
    all_goals refine qE ?_)
  all_goals first
  | fail_if_success with_reducible refine atC 27 ?_
  | (
    refine cn 27 ?_ ?_ <;> intro hc27 <;> try (cases hc27; done)
    all_goals refine st ?_)
  all_goals first
  | fail_if_success with_reducible refine atR 11 ?_
  | (
    refine rg 11 [] [some 2] 1 ?_
    all_goals refine qP ?_
    all_goals refine qE ?_)
  all_goals first
  | fail_if_success with_reducible refine atR 12 ?_
  | (
    refine rg 12 [] [some 28, some 29, some 30, some 7] 4 ?_
    all_goals refine qP ?_
    all_goals (
      refine qL_cons ?_
      intro R hR
      refine sm ?_
      refine call_fun (toTOws os true hss (fun _ _ => trivial)) [] ?_ (.inl rfl) ?_
      · exact ⟨.inl rfl, ⟨.inl rfl, trivial⟩⟩
      refine sm ?_
      all_goals (refine hR _ ?_; clear hR R))
    all_goals (
      refine qL_cons ?_
      intro R hR
      refine sm ?_
      refine call_fun (implOwnersOk os hel) [] ?_ (.inl rfl) ?_
      · exact ⟨arg_bare (toOws_bare os true) (on_toOws _ os true), trivial⟩
      refine sm ?_
      all_goals (refine hR _ ?_; clear hR R))
    all_goals refine qP ?_
    all_goals refine qE ?_)
  all_goals first
  | fail_if_success with_reducible refine atR 13 ?_
  | (
    refine rg 13 [] [some 31, some 32, some 33] 3 ?_
    all_goals iterate 3 refine qP ?_
    all_goals refine qE ?_)
  all_goals first
  | fail_if_success with_reducible refine atC 33 ?_
  | (
    refine cn 33 ?_ ?_ <;> intro hc33 <;> try (cases hc33; done)
    all_goals refine st ?_)
  all_goals first
  | fail_if_success with_reducible refine atR 14 ?_
  | (
    refine rg 14 [] [some 2] 1 ?_
    all_goals refine qP ?_
    all_goals refine qE ?_)
  all_goals first
  | fail_if_success with_reducible refine atR 15 ?_
  | (
    refine rg 15 [] [some 2] 1 ?_
    all_goals refine qP ?_
    all_goals refine qE ?_)
  all_goals first
  | fail_if_success with_reducible refine ret_fun (t := 2) ?_ ?_
  | (
    refine ret_fun (t := 2) ?_ (fun _ => rfl)
    first
    | exact cl
    | (
      try refine sm ?_
      all_goals (
       simp_all)))

end
end Go.Proofs.YtkbnkcdaiahoeaaDoor
namespace Go.Proofs.YtkbnkcdaiahoeaaDoor
open Go Go.RowKit
set_option maxRecDepth 100000
set_option maxHeartbeats 4000000
set_option linter.unusedSimpArgs false
set_option linter.unusedVariables false
def atW (dir path : ByteArray) : Bool := decide (dir = path) || inB dir path
theorem at_eq {dir path : ByteArray} (h1 : pthB dir = true) (h2 : pthB path = true) : atB dir path = atW dir path := by
  simp only [atB, atW, pinB, h1, h2, hp_in, Bool.true_and]
/-- The longest owned path at which a path is, or below which; who owns it. -/
def whoS (path : ByteArray) (p : ByteArray × ByteArray) (o : Ow) : ByteArray × ByteArray := if (atW o.path path && decide ((p.1.size : Int) < (o.path.size : Int))) = true then (o.path, o.who) else p
def whoF (path : ByteArray) (os : List Ow) : ByteArray × ByteArray := os.foldl (whoS path) (ByteArray.empty, ByteArray.empty)
def ofB (os : List Ow) (path : ByteArray) : ByteArray := if (owB os && pthB path) = true then (whoF path os).2 else ByteArray.empty
theorem who_step {path : ByteArray} {os : List Ow} {i : Nat} {x : Ow} (hx : os[i]? = some x) : whoF path (os.take (i + 1)) = whoS path (whoF path (os.take i)) x := by
  unfold whoF
  rw [List.take_add_one, hx, List.foldl_append]
  rfl
theorem who_nil (path : ByteArray) (os : List Ow) : whoF path (os.take 0) = (ByteArray.empty, ByteArray.empty) := rfl
theorem ow_path {os : List Ow} {i : Nat} {x : Ow} (h : owB os = true) (hx : os[i]? = some x) : pthB x.path = true := by
  simp only [owB, Bool.and_eq_true, List.all_eq_true, List.mem_range] at h
  have := h.1 i (List.getElem?_eq_some_iff.1 hx).1
  simp only [okO, hx, Bool.and_eq_true] at this
  exact this.1.1
attribute [local go_sem] List.size_toArray Int.toNat_zero Nat.sub_zero size_mk top_val eq_self datL X.dat u8min u8max i64min i64max stepT gdO aop ev lit litOk putF fzX_false putO upd app List.contains_nil List.elem_nil aBin aInt aStr aBool aLen lenTy aBuiltin aLoad aTake aTakeX aStore splice aSlice aBd look_cons look_nil lookC_cons lookC_nil by_s by_C start_s start_C X.cells X.cell List.all_cons List.all_nil Bool.and_self Bool.not_true Bool.not_false false_implies true_implies forall_const and_true true_and and_self implies_true not_false_eq_true Nat.zero_add Nat.add_zero List.getD_cons_zero List.getD_cons_succ List.map_cons List.map_nil Option.bind_some Option.map_some Option.map_none List.getElem?_cons_zero List.getElem?_cons_succ List.length_cons List.length_nil List.drop_zero List.drop_succ_cons List.take_succ_cons List.take_zero List.cons_append List.nil_append List.append_nil D.of List.length_map all_get_map Option.isSome_some and_false false_and Nat.lt_add_one Nat.zero_lt_succ decide_true decide_false aPart aSl2 Nat.lt_irrefl fzX litEs List.contains_cons List.elem_cons Bool.true_or Bool.or_true Bool.false_or Bool.or_false beq_self_eq_true
section
attribute [local go_sem] tsz9 tsz39 tel39 toNat_cast und9 tsz35 tfld35 tel25 zero35 owX
theorem implOwnerOf (os : List Ow) (path : ByteArray) (hs : ∀ o ∈ os, o.path.size ≤ 1000000) (hp : path.size ≤ 1000000) : Fun Tryd.prog 15 [.d (.of owX os), .d (.str path)] (.d (.str (ofB os path))) := by
  refine Fun.of ?_ rfl rfl
  refine Spec.of (fn := Tryd.f15) Tryd.func15 rfl (by kernel_rfl) (rs := [.tmp 4]) rfl 1 (by simp [Tryd.f15]) rfl (by simp) ?_
  intro hreal
  rintro ⟨P, T, L0, w0, ι0, C0, U0⟩ hP hT hU
  subst hP hT
  refine st ?_
  have hlen : os.length ≤ 9223372036854775807 := by simpa using D.real_len (X.real_d (hreal (.d (.of owX os)) (by simp)) : D.real (.sl (os.map owX)))
  all_goals first
  | fail_if_success with_reducible refine atR 0 ?_
  | (
    refine rg 0 [] [some 4] 1 ?_
    all_goals refine qP ?_
    all_goals refine qE ?_)
  all_goals first
  | fail_if_success with_reducible refine atR 1 ?_
  | (
    refine rg 1 [] [some 8, some 9, some 10, some 11, some 12, some 13, some 14, some 15] 8 ?_
    all_goals refine qP ?_
    all_goals (
      refine qL_cons ?_
      intro R hR
      refine sm ?_
      refine call_fun (implOwnersOk os hs) [] ?_ (.inl rfl) ?_
      · exact ⟨.inl rfl, trivial⟩
      refine sm ?_
      all_goals (refine hR _ ?_; clear hR R))
    all_goals iterate 2 refine qP ?_
    all_goals first | refine qU 11 ?_ | (refine qS 11 ?_ ?_ <;> intro hg1_3 <;> try (cases hg1_3; done))
    all_goals refine qP ?_
    all_goals first
    | (
      refine qL_cons ?_
      intro R hR
      refine sm ?_
      refine call_fun (PathOk_spec path hp) [] ?_ (.inl rfl) ?_
      · exact ⟨.inl rfl, trivial⟩
      refine sm ?_
      refine hR _ ?_
      clear hR R)
    | refine qP ?_
    all_goals iterate 2 refine qP ?_
    all_goals refine qE ?_)
  all_goals first
  | fail_if_success with_reducible refine atC 15 ?_
  | (
    refine cn 15 ?_ ?_ <;> intro hc15 <;> try (cases hc15; done)
    all_goals refine st ?_)
  all_goals try (have h1 : owB os = true := by simp_all)
  all_goals try (have h2 : pthB path = true := by simp_all)
  all_goals first
  | fail_if_success with_reducible refine atR 2 ?_
  | (
    refine rg 2 [] [some 4] 1 ?_
    all_goals refine qP ?_
    all_goals refine qE ?_)
  all_goals first
  | fail_if_success with_reducible refine atR 3 ?_
  | (
    refine rg 3 [] [some 16, some 5, none] 3 ?_
    all_goals iterate 3 refine qP ?_
    all_goals refine qE ?_)
  all_goals first
  | fail_if_success with_reducible refine atR 4 ?_
  | (
    refine rg 4 [] [some 17, some 18, some 19] 3 ?_
    all_goals iterate 3 refine qP ?_
    all_goals refine qE ?_)
  all_goals first
  | fail_if_success with_reducible refine AW.rounds (α := Nat) ?_ ?_ ?_ ?_ ?_ ?_ ?_ ?_
  | (
    refine AW.rounds (α := Nat) (fun i => i ≤ os.length) (fun i => St.by [(0, .d (.of owX os)), (1, .d (.str path)), (5, .bx 11 0), (17, .d (.of owX os)), (18, .d (.int .i64 os.length)), (19, .d (.int .i64 i))] [(11, .box 35 [.d (.str (whoF path (os.take i)).1), .d (.str (whoF path (os.take i)).2)])]) (fun i => os.length - i) 16 0 ?_ ?_ ?_
    · omega
    · refine Vw.to [] _ _ (vU hU) ?_ ?_ (by simp [tauL])
      · refine vd (vd (vx (vd (vd (vw_d ?_ (trivial))))))
        · first
          | exact cl2
          | (
            refine sm2 ?_
            all_goals (
             rfl))
      · exact ⟨⟨by simp, rfl, cl3⟩, trivial⟩
    · intro i hJ
      refine st ?_
      all_goals first
      | fail_if_success with_reducible refine atR 5 ?_
      | (
        refine rg 5 [] [some 20] 1 ?_
        all_goals refine qP ?_
        all_goals refine qE ?_)
      all_goals first
      | fail_if_success with_reducible refine atC 20 ?_
      | (
        refine cn 20 ?_ ?_ <;> intro hc20 <;> try (cases hc20; done)
        all_goals refine st ?_)
      all_goals first
      | fail_if_success with_reducible refine atR 6 ?_
      | (
        refine rg 6 [] [some 21, some 22, some 7, none] 4 ?_
        all_goals (
          refine qL_cons ?_
          intro R hR
          refine sm ?_
          refine ⟨⟨by omega, by omega⟩, ?_⟩
          intro x hx
          have hxs := hs x (List.mem_of_getElem? hx)
          try simp only [go_sem, reduceIte, reduceCtorEq, Nat.reduceAdd, Nat.reduceEqDiff, Nat.reduceLeDiff, Nat.reduceLT, Nat.reduceSub, Int.reduceLE, Int.reduceNeg, Int.reduceLT, owX]
          all_goals (refine hR _ ?_; clear hR R))
        all_goals iterate 3 refine qP ?_
        all_goals refine qE ?_)
      all_goals first
      | fail_if_success with_reducible refine atR 7 ?_
      | (
        refine rg 7 [] [some 23, some 24, some 25, some 26, some 27, some 28, some 29, some 30, some 31, some 32, some 33, some 34, some 35] 13 ?_
        all_goals iterate 3 refine qP ?_
        all_goals (
          refine qL_cons ?_
          intro R hR
          refine sm ?_
          refine call_fun (isAt_spec x.path path hxs hp) [] ?_ (.inl rfl) ?_
          · exact ⟨.inl rfl, ⟨.inl rfl, trivial⟩⟩
          refine sm ?_
          all_goals (refine hR _ ?_; clear hR R))
        all_goals refine qP ?_
        all_goals first | refine qU 27 ?_ | (refine qS 27 ?_ ?_ <;> intro hg7_4 <;> try (cases hg7_4; done))
        all_goals iterate 8 refine qP ?_
        all_goals refine qE ?_)
      all_goals first
      | fail_if_success with_reducible refine atC 35 ?_
      | (
        refine cn 35 ?_ ?_ <;> intro hc35 <;> try (cases hc35; done)
        all_goals refine st ?_)
      all_goals first
      | fail_if_success with_reducible refine atR 8 ?_
      | (
        refine rg 8 [] [some 36, none] 2 ?_
        all_goals iterate 2 refine qP ?_
        all_goals refine qE ?_)
      all_goals first
      | fail_if_success with_reducible refine atR 9 ?_
      | (
        refine rg 9 [] [some 37, some 19] 2 ?_
        all_goals (
          refine qL_cons ?_
          intro R hR
          refine sm ?_
          rw [wrap64 (by omega) (by omega)]
          all_goals (refine hR _ ?_; clear hR R))
        all_goals refine qP ?_
        all_goals refine qE ?_)
      all_goals first
      | fail_if_success with_reducible refine ⟨i + 1, ?_, ?_, ?_⟩
      | (
        refine ⟨i + 1, ?_, ?_, ?_⟩
        · omega
        · omega
        · refine Vw.to [] _ _ (vU hU) ?_ ?_ (by simp [tauL])
          · refine vd (vd (vx (vd (vd (vw_d ?_ (trivial))))))
            · first
              | exact cl2
              | (
                refine sm2 ?_
                all_goals (
                 congr 1))
          · refine ⟨⟨by simp, rfl, ?_⟩, trivial⟩
            refine sm3 ?_
            have ha := at_eq (ow_path h1 hx) h2
            have hw := who_step (path := path) hx
            unfold whoS at hw
            by_cases hq : (atW x.path path && decide (((whoF path (os.take i)).1.size : Int) < (x.path.size : Int))) = true
            · rw [if_pos hq] at hw
              (rw [hw]) <;> (first | rfl | (exfalso; simp_all; done) | (exfalso; simp_all; omega))
            · rw [if_neg hq] at hw
              (rw [hw]) <;> (first | rfl | (exfalso; simp_all; done) | (exfalso; simp_all; omega)))
      all_goals first
      | fail_if_success with_reducible refine atR 10 ?_
      | (
        refine rg 10 [] [some 38, some 39, some 4] 3 ?_
        all_goals iterate 3 refine qP ?_
        all_goals refine qE ?_)
      all_goals first
      | fail_if_success with_reducible refine ret_fun (t := 4) ?_ ?_
      | (
        refine ret_fun (t := 4) ?_ (fun _ => rfl)
        first
        | exact cl
        | (
          try refine sm ?_
          all_goals (
           (congr 2
            have hi : i = os.length := by omega
            subst hi
            rw [List.take_length] at *
            simp [ofB, h1, h2])))))
  all_goals first
  | fail_if_success with_reducible refine ret_fun (t := 4) ?_ ?_
  | (
    refine ret_fun (t := 4) ?_ (fun _ => rfl)
    first
    | exact cl
    | (
      try refine sm ?_
      all_goals (
       (congr 2; simp_all [ofB]; try rfl))))

end
section
attribute [local go_sem] tsz9 tsz39 tel39 toNat_cast und9 tsz35 tfld35 tel25 zero35 owX
theorem l17Who_spec (os : List Ow) (path : ByteArray) : Fun Tryd.prog 41 [.d (.of owX os), .d (.str path)] (.d (.str (whoF path os).2)) := by
  refine Fun.of ?_ rfl rfl
  refine Spec.of (fn := Tryd.f41) Tryd.func41 rfl (by kernel_rfl) (rs := [.tmp 4]) rfl 1 (by simp [Tryd.f41]) rfl (by simp) ?_
  intro hreal
  rintro ⟨P, T, L0, w0, ι0, C0, U0⟩ hP hT hU
  subst hP hT
  refine st ?_
  have hlen : os.length ≤ 9223372036854775807 := by simpa using D.real_len (X.real_d (hreal (.d (.of owX os)) (by simp)) : D.real (.sl (os.map owX)))
  all_goals first
  | fail_if_success with_reducible refine atR 0 ?_
  | (
    refine rg 0 [] [some 4] 1 ?_
    all_goals refine qP ?_
    all_goals refine qE ?_)
  all_goals first
  | fail_if_success with_reducible refine atR 1 ?_
  | (
    refine rg 1 [] [some 5] 1 ?_
    all_goals refine qP ?_
    all_goals refine qE ?_)
  all_goals first
  | fail_if_success with_reducible refine atR 2 ?_
  | (
    refine rg 2 [] [some 6] 1 ?_
    all_goals refine qP ?_
    all_goals refine qE ?_)
  all_goals first
  | fail_if_success with_reducible refine atR 3 ?_
  | (
    refine rg 3 [] [some 7] 1 ?_
    all_goals refine qP ?_
    all_goals refine qE ?_)
  all_goals first
  | fail_if_success with_reducible refine AW.rounds (α := Nat) ?_ ?_ ?_ ?_ ?_ ?_ ?_ ?_
  | (
    refine AW.rounds (α := Nat) (fun i => i ≤ os.length) (fun i => St.by [(0, .d (.of owX os)), (1, .d (.str path)), (5, .d (.str (whoF path (os.take i)).2)), (6, .d (.int .i64 (whoF path (os.take i)).1.size)), (7, .d (.int .i64 i))] []) (fun i => os.length - i) 4 0 ?_ ?_ ?_
    · omega
    · refine Vw.to [] _ _ (vU hU) ?_ ?_ (by simp [tauL])
      · refine vd (vd (vw_d ?_ (vw_d ?_ (vw_d ?_ (trivial)))))
        · first
          | exact cl2
          | (
            refine sm2 ?_
            all_goals (
             rfl))
        · first
          | exact cl2
          | (
            refine sm2 ?_
            all_goals (
             rfl))
        · first
          | exact cl2
          | (
            refine sm2 ?_
            all_goals (
             rfl))
      · trivial
    · intro i hJ
      refine st ?_
      have hatc : ∀ d, atW d path = (decide (d = path) || inB d path) := fun _ => rfl
      all_goals first
      | fail_if_success with_reducible refine atR 4 ?_
      | (
        refine rg 4 [] [some 8, some 9, some 10, some 11] 4 ?_
        all_goals iterate 4 refine qP ?_
        all_goals refine qE ?_)
      all_goals first
      | fail_if_success with_reducible refine atC 11 ?_
      | (
        refine cn 11 ?_ ?_ <;> intro hc11 <;> try (cases hc11; done)
        all_goals refine st ?_)
      all_goals first
      | fail_if_success with_reducible refine atR 6 ?_
      | (
        refine rg 6 [] [some 14, some 15, some 16, some 17, some 18, some 19, some 20, some 21, some 22, some 23, some 24, some 25, some 26, some 27, some 28, some 29, some 30, some 31, some 32, some 33, some 34, some 35, some 36, some 37, some 38, some 39] 26 ?_
        all_goals iterate 2 refine qP ?_
        all_goals (
          refine qL_cons ?_
          intro R hR
          refine sm ?_
          refine ⟨⟨by omega, by omega⟩, ?_⟩
          intro x hx
          try simp only [go_sem, reduceIte, reduceCtorEq, Nat.reduceAdd, Nat.reduceEqDiff, Nat.reduceLeDiff, Nat.reduceLT, Nat.reduceSub, Int.reduceLE, Int.reduceNeg, Int.reduceLT, owX]
          all_goals (refine hR _ ?_; clear hR R))
        all_goals iterate 5 refine qP ?_
        all_goals first | refine qU 21 ?_ | (refine qS 21 ?_ ?_ <;> intro hg6_7 <;> try (cases hg6_7; done))
        all_goals iterate 2 refine qP ?_
        all_goals first
        | (
          refine qL_cons ?_
          intro R hR
          refine sm ?_
          refine ⟨⟨by omega, by omega⟩, ?_⟩
          refine get_use hx ?_
          try simp only [go_sem, reduceIte, reduceCtorEq, Nat.reduceAdd, Nat.reduceEqDiff, Nat.reduceLeDiff, Nat.reduceLT, Nat.reduceSub, Int.reduceLE, Int.reduceNeg, Int.reduceLT, owX]
          refine hR _ ?_
          clear hR R)
        | refine qP ?_
        all_goals iterate 3 refine qP ?_
        all_goals first
        | (
          refine qL_cons ?_
          intro R hR
          refine sm ?_
          refine call_fun (l4In_spec x.path path) [] ?_ (.inl rfl) ?_
          · exact ⟨.inl rfl, ⟨.inl rfl, trivial⟩⟩
          refine sm ?_
          refine hR _ ?_
          clear hR R)
        | refine qP ?_
        all_goals iterate 2 refine qP ?_
        all_goals first | refine qU 30 ?_ | (refine qS 30 ?_ ?_ <;> intro hg6_16 <;> try (cases hg6_16; done))
        all_goals iterate 2 refine qP ?_
        all_goals first
        | (
          refine qL_cons ?_
          intro R hR
          refine sm ?_
          refine ⟨⟨by omega, by omega⟩, ?_⟩
          refine get_use hx ?_
          try simp only [go_sem, reduceIte, reduceCtorEq, Nat.reduceAdd, Nat.reduceEqDiff, Nat.reduceLeDiff, Nat.reduceLT, Nat.reduceSub, Int.reduceLE, Int.reduceNeg, Int.reduceLT, owX]
          refine hR _ ?_
          clear hR R)
        | refine qP ?_
        all_goals iterate 6 refine qP ?_
        all_goals refine qE ?_)
      all_goals first
      | fail_if_success with_reducible refine atC 39 ?_
      | (
        refine cn 39 ?_ ?_ <;> intro hc39 <;> try (cases hc39; done)
        all_goals refine st ?_)
      all_goals first
      | fail_if_success with_reducible refine atR 7 ?_
      | (
        refine rg 7 [] [some 40, some 41, some 42, some 43, some 44, some 5] 6 ?_
        all_goals iterate 2 refine qP ?_
        all_goals (
          refine qL_cons ?_
          intro R hR
          refine sm ?_
          refine ⟨⟨by omega, by omega⟩, ?_⟩
          refine get_use hx ?_
          try simp only [go_sem, reduceIte, reduceCtorEq, Nat.reduceAdd, Nat.reduceEqDiff, Nat.reduceLeDiff, Nat.reduceLT, Nat.reduceSub, Int.reduceLE, Int.reduceNeg, Int.reduceLT, owX]
          all_goals (refine hR _ ?_; clear hR R))
        all_goals iterate 3 refine qP ?_
        all_goals refine qE ?_)
      all_goals first
      | fail_if_success with_reducible refine atR 8 ?_
      | (
        refine rg 8 [] [some 45, some 46, some 47, some 48, some 49, some 50, some 6] 7 ?_
        all_goals iterate 2 refine qP ?_
        all_goals (
          refine qL_cons ?_
          intro R hR
          refine sm ?_
          refine ⟨⟨by omega, by omega⟩, ?_⟩
          refine get_use hx ?_
          try simp only [go_sem, reduceIte, reduceCtorEq, Nat.reduceAdd, Nat.reduceEqDiff, Nat.reduceLeDiff, Nat.reduceLT, Nat.reduceSub, Int.reduceLE, Int.reduceNeg, Int.reduceLT, owX]
          all_goals (refine hR _ ?_; clear hR R))
        all_goals iterate 4 refine qP ?_
        all_goals refine qE ?_)
      all_goals first
      | fail_if_success with_reducible refine atR 5 ?_
      | (
        refine rg 5 [] [some 12, some 13, some 7] 3 ?_
        all_goals refine qP ?_
        all_goals (
          refine qL_cons ?_
          intro R hR
          refine sm ?_
          rw [wrap64 (by omega) (by omega)]
          all_goals (refine hR _ ?_; clear hR R))
        all_goals refine qP ?_
        all_goals refine qE ?_)
      all_goals first
      | fail_if_success with_reducible refine ⟨i + 1, ?_, ?_, ?_⟩
      | (
        refine ⟨i + 1, ?_, ?_, ?_⟩
        · omega
        · omega
        · refine Vw.to [] _ _ (vU hU) ?_ ?_ (by simp [tauL])
          · refine vd (vd (vw_d ?_ (vw_d ?_ (vw_d ?_ (trivial)))))
            · first
              | exact cl2
              | (
                refine sm2 ?_
                all_goals (
                 have hw := who_step (path := path) hx
                 unfold whoS at hw
                 by_cases hq : (atW x.path path && decide (((whoF path (os.take i)).1.size : Int) < (x.path.size : Int))) = true
                 · rw [if_pos hq] at hw
                   (rw [hw]) <;> (first | rfl | (exfalso; simp_all; done) | (exfalso; simp_all; omega))
                 · rw [if_neg hq] at hw
                   (rw [hw]) <;> (first | rfl | (exfalso; simp_all; done) | (exfalso; simp_all; omega))))
            · first
              | exact cl2
              | (
                refine sm2 ?_
                all_goals (
                 have hw := who_step (path := path) hx
                 unfold whoS at hw
                 by_cases hq : (atW x.path path && decide (((whoF path (os.take i)).1.size : Int) < (x.path.size : Int))) = true
                 · rw [if_pos hq] at hw
                   (rw [hw]) <;> (first | rfl | (exfalso; simp_all; done) | (exfalso; simp_all; omega))
                 · rw [if_neg hq] at hw
                   (rw [hw]) <;> (first | rfl | (exfalso; simp_all; done) | (exfalso; simp_all; omega))))
            · first
              | exact cl2
              | (
                refine sm2 ?_
                all_goals (
                 congr 1))
          · trivial)
      all_goals first
      | fail_if_success with_reducible refine atR 9 ?_
      | (
        refine rg 9 [] [some 51, some 4] 2 ?_
        all_goals iterate 2 refine qP ?_
        all_goals refine qE ?_)
      all_goals first
      | fail_if_success with_reducible refine ret_fun (t := 4) ?_ ?_
      | (
        refine ret_fun (t := 4) ?_ (fun _ => rfl)
        first
        | exact cl
        | (
          try refine sm ?_
          all_goals (
           (congr 2
            have hi : i = os.length := by omega
            subst hi
            rw [List.take_length])))))

end
section
attribute [local go_sem] tsz9 tsz39 tel39 toNat_cast und9 tsz35 tfld35 tel25 zero35 owX
theorem specOwnerOf (os : List Ow) (path : ByteArray) (hs : ∀ o ∈ os, o.path.size ≤ 1000000) (hp : path.size ≤ 1000000) : Fun Tryd.prog 16 [.d (.of owX os), .d (.str path)] (.d (.str (ofB os path))) := by
  refine Fun.of ?_ rfl rfl
  refine Spec.of (fn := Tryd.f16) Tryd.func16 rfl (by kernel_rfl) (rs := [.tmp 4]) rfl 1 (by simp [Tryd.f16]) rfl (by simp) ?_
  intro hreal
  rintro ⟨P, T, L0, w0, ι0, C0, U0⟩ hP hT hU
  subst hP hT
  refine st ?_
  all_goals first
  | fail_if_success with_reducible refine atR 0 ?_
  | (
    refine rg 0 [] [some 4] 1 ?_
    all_goals refine qP ?_
    all_goals refine qE ?_)
  all_goals first
  | fail_if_success with_reducible refine atR 1 ?_
  | (
    refine rg 1 [] [some 5, some 6, some 7, some 8, some 9, some 10, some 11, some 12] 8 ?_
    all_goals refine qP ?_
    all_goals (
      refine qL_cons ?_
      intro R hR
      refine sm ?_
      refine call_fun (l17Owners_spec os hs) [] ?_ (.inl rfl) ?_
      · exact ⟨.inl rfl, trivial⟩
      refine sm ?_
      all_goals (refine hR _ ?_; clear hR R))
    all_goals iterate 2 refine qP ?_
    all_goals first | refine qU 8 ?_ | (refine qS 8 ?_ ?_ <;> intro hg1_3 <;> try (cases hg1_3; done))
    all_goals refine qP ?_
    all_goals first
    | (
      refine qL_cons ?_
      intro R hR
      refine sm ?_
      refine call_fun (l4Path_spec path hp) [] ?_ (.inl rfl) ?_
      · exact ⟨.inl rfl, trivial⟩
      refine sm ?_
      refine hR _ ?_
      clear hR R)
    | refine qP ?_
    all_goals iterate 2 refine qP ?_
    all_goals refine qE ?_)
  all_goals first
  | fail_if_success with_reducible refine atC 12 ?_
  | (
    refine cn 12 ?_ ?_ <;> intro hc12 <;> try (cases hc12; done)
    all_goals refine st ?_)
  all_goals first
  | fail_if_success with_reducible refine atR 2 ?_
  | (
    refine rg 2 [] [some 4] 1 ?_
    all_goals refine qP ?_
    all_goals refine qE ?_)
  all_goals first
  | fail_if_success with_reducible refine atR 3 ?_
  | (
    refine rg 3 [] [some 13, some 14, some 15, some 4] 4 ?_
    all_goals iterate 2 refine qP ?_
    all_goals (
      refine qL_cons ?_
      intro R hR
      refine sm ?_
      refine call_fun (l17Who_spec os path) [] ?_ (.inl rfl) ?_
      · exact ⟨.inl rfl, ⟨.inl rfl, trivial⟩⟩
      refine sm ?_
      all_goals (refine hR _ ?_; clear hR R))
    all_goals refine qP ?_
    all_goals refine qE ?_)
  all_goals first
  | fail_if_success with_reducible refine ret_fun (t := 4) ?_ ?_
  | (
    refine ret_fun (t := 4) ?_ (fun _ => rfl)
    first
    | exact cl
    | (
      try refine sm ?_
      all_goals (
       (congr 2; simp_all [ofB]; try rfl))))

end
end Go.Proofs.YtkbnkcdaiahoeaaDoor
namespace Go.Proofs.YtkbnkcdaiahoeaaDoor
open Go Go.RowKit
set_option maxRecDepth 100000
set_option maxHeartbeats 4000000
set_option linter.unusedSimpArgs false
set_option linter.unusedVariables false
attribute [local go_sem] List.size_toArray Int.toNat_zero Nat.sub_zero size_mk top_val eq_self datL X.dat u8min u8max i64min i64max stepT gdO aop ev lit litOk putF fzX_false putO upd app List.contains_nil List.elem_nil aBin aInt aStr aBool aLen lenTy aBuiltin aLoad aTake aTakeX aStore splice aSlice aBd look_cons look_nil lookC_cons lookC_nil by_s by_C start_s start_C X.cells X.cell List.all_cons List.all_nil Bool.and_self Bool.not_true Bool.not_false false_implies true_implies forall_const and_true true_and and_self implies_true not_false_eq_true Nat.zero_add Nat.add_zero List.getD_cons_zero List.getD_cons_succ List.map_cons List.map_nil Option.bind_some Option.map_some Option.map_none List.getElem?_cons_zero List.getElem?_cons_succ List.length_cons List.length_nil List.drop_zero List.drop_succ_cons List.take_succ_cons List.take_zero List.cons_append List.nil_append List.append_nil D.of List.length_map all_get_map Option.isSome_some and_false false_and Nat.lt_add_one Nat.zero_lt_succ decide_true decide_false aPart aSl2 Nat.lt_irrefl fzX litEs List.contains_cons List.elem_cons Bool.true_or Bool.or_true Bool.false_or Bool.or_false beq_self_eq_true
section
attribute [local go_sem] tsz9 tsz35 tfld35 tel25 toNat_cast und9 und4 zero35 tsz53 tfld53 tel22 owX
theorem szNOws (ss : List Ow) (left : Int) (hl : left < 0) (hl2 : -140737488351232 ≤ left) (hn : ss.length ≤ 140737488351232) : Fun Tryd.prog 9 [.d (.of owX ss), .d (.int .i64 left)] (.d (.int .i64 (-1))) := by
  refine Fun.of ?_ rfl rfl
  refine Spec.of (fn := Tryd.f9) Tryd.func9 rfl (by kernel_rfl) (rs := [.tmp 4]) rfl 1 (by simp [Tryd.f9]) rfl (by simp) ?_
  intro hreal
  rintro ⟨P, T, L0, w0, ι0, C0, U0⟩ hP hT hU
  subst hP hT
  refine st ?_
  all_goals first
  | fail_if_success with_reducible refine atR 0 ?_
  | (
    refine rg 0 [] [some 4] 1 ?_
    all_goals refine qP ?_
    all_goals refine qE ?_)
  all_goals first
  | fail_if_success with_reducible refine atR 1 ?_
  | (
    refine rg 1 [] [some 6, some 7, some 8, some 9, some 1] 5 ?_
    all_goals iterate 3 refine qP ?_
    all_goals (
      refine qL_cons ?_
      intro R hR
      refine sm ?_
      rw [wrap64 (by omega) (by omega)]
      all_goals (refine hR _ ?_; clear hR R))
    all_goals refine qP ?_
    all_goals refine qE ?_)
  all_goals first
  | fail_if_success with_reducible refine atR 2 ?_
  | (
    refine rg 2 [] [some 10, some 11] 2 ?_
    all_goals iterate 2 refine qP ?_
    all_goals refine qE ?_)
  all_goals first
  | fail_if_success with_reducible refine atC 11 ?_
  | (
    refine cn 11 ?_ ?_ <;> intro hc11 <;> try (cases hc11; done)
    all_goals refine st ?_)
  all_goals try (exfalso; omega)
  all_goals first
  | fail_if_success with_reducible refine atR 3 ?_
  | (
    refine rg 3 [] [some 4] 1 ?_
    all_goals refine qP ?_
    all_goals refine qE ?_)
  all_goals first
  | fail_if_success with_reducible refine ret_fun (t := 4) ?_ ?_
  | (
    refine ret_fun (t := 4) ?_ (fun _ => rfl)
    first
    | exact cl
    | (
      try refine sm ?_
      all_goals (
       rfl)))

end
section
attribute [local go_sem] tsz9 tsz35 tfld35 tel25 toNat_cast und9 und4 zero35 tsz53 tfld53 tel22
theorem exactOwnerOf_big (os : List Ow) (path : ByteArray) (hp : 1000000 < path.size) (hp2 : path.size ≤ 140737488351232) (hn : os.length ≤ 140737488351232) : Fun Tryd.prog 5 [.d (.of owX os), .d (.str path)] (.d (.bool true)) := by
  refine Fun.of ?_ rfl rfl
  refine Spec.of (fn := Tryd.f5) Tryd.func5 rfl (by kernel_rfl) (rs := [.tmp 4]) rfl 1 (by simp [Tryd.f5]) rfl (by simp) ?_
  intro hreal
  rintro ⟨P, T, L0, w0, ι0, C0, U0⟩ hP hT hU
  subst hP hT
  refine st ?_
  all_goals first
  | fail_if_success with_reducible refine atR 0 ?_
  | (
    refine rg 0 [] [some 4] 1 ?_
    all_goals refine qP ?_
    all_goals refine qE ?_)
  all_goals first
  | fail_if_success with_reducible refine atR 1 ?_
  | (
    refine rg 1 [] [some 10, some 11, some 12, some 5] 4 ?_
    all_goals iterate 2 refine qP ?_
    all_goals (
      refine qL_cons ?_
      intro R hR
      refine sm ?_
      rw [wrap64 (by omega) (by omega)]
      all_goals (refine hR _ ?_; clear hR R))
    all_goals refine qP ?_
    all_goals refine qE ?_)
  all_goals first
  | fail_if_success with_reducible refine atR 2 ?_
  | (
    refine rg 2 [] [some 13, some 14, some 15, some 5] 4 ?_
    all_goals iterate 2 refine qP ?_
    all_goals (
      refine qL_cons ?_
      intro R hR
      refine sm ?_
      refine call_fun (szNOws os (1000000 - path.size) (by omega) (by omega) (by omega)) [] ?_ (.inl rfl) ?_
      · exact ⟨.inl rfl, ⟨.inl rfl, trivial⟩⟩
      refine sm ?_
      all_goals (refine hR _ ?_; clear hR R))
    all_goals refine qP ?_
    all_goals refine qE ?_)
  all_goals first
  | fail_if_success with_reducible refine atR 3 ?_
  | (
    refine rg 3 [] [some 16, some 17] 2 ?_
    all_goals iterate 2 refine qP ?_
    all_goals refine qE ?_)
  all_goals first
  | fail_if_success with_reducible refine atC 17 ?_
  | (
    refine cn 17 ?_ ?_ <;> intro hc17 <;> try (cases hc17; done)
    all_goals refine st ?_)
  all_goals try (exfalso; omega)
  all_goals first
  | fail_if_success with_reducible refine atR 4 ?_
  | (
    refine rg 4 [] [some 4] 1 ?_
    all_goals refine qP ?_
    all_goals refine qE ?_)
  all_goals first
  | fail_if_success with_reducible refine ret_fun (t := 4) ?_ ?_
  | (
    refine ret_fun (t := 4) ?_ (fun _ => rfl)
    first
    | exact cl
    | (
      try refine sm ?_
      all_goals (
       rfl)))

end
section
attribute [local go_sem] tsz9 tsz35 tfld35 tel25 toNat_cast und9 und4 zero35 tsz53 tfld53 tel22
theorem exactOwnerOf_ok (os : List Ow) (path : ByteArray) (hp : path.size ≤ 1000000) : Fun Tryd.prog 5 [.d (.of owX os), .d (.str path)] (.d (.bool true)) := by
  refine Fun.of ?_ rfl rfl
  refine Spec.of (fn := Tryd.f5) Tryd.func5 rfl (by kernel_rfl) (rs := [.tmp 4]) rfl 1 (by simp [Tryd.f5]) rfl (by simp) ?_
  intro hreal
  rintro ⟨P, T, L0, w0, ι0, C0, U0⟩ hP hT hU
  subst hP hT
  refine st ?_
  all_goals first
  | fail_if_success with_reducible refine atR 0 ?_
  | (
    refine rg 0 [] [some 4] 1 ?_
    all_goals refine qP ?_
    all_goals refine qE ?_)
  all_goals first
  | fail_if_success with_reducible refine atR 1 ?_
  | (
    refine rg 1 [] [some 10, some 11, some 12, some 5] 4 ?_
    all_goals iterate 2 refine qP ?_
    all_goals (
      refine qL_cons ?_
      intro R hR
      refine sm ?_
      rw [wrap64 (by omega) (by omega)]
      all_goals (refine hR _ ?_; clear hR R))
    all_goals refine qP ?_
    all_goals refine qE ?_)
  all_goals first
  | fail_if_success with_reducible refine atR 2 ?_
  | (
    refine rg 2 [] [some 13, some 14, some 15, some 5] 4 ?_
    all_goals iterate 2 refine qP ?_
    all_goals (
      refine qL_cons ?_
      intro R hR
      refine sm ?_
      refine call_fun (szTOws os (1000000 - path.size) (by omega) (by omega)) [] ?_ (.inl rfl) ?_
      · exact ⟨.inl rfl, ⟨.inl rfl, trivial⟩⟩
      refine sm ?_
      all_goals (refine hR _ ?_; clear hR R))
    all_goals refine qP ?_
    all_goals refine qE ?_)
  all_goals first
  | fail_if_success with_reducible refine atR 3 ?_
  | (
    refine rg 3 [] [some 16, some 17] 2 ?_
    all_goals iterate 2 refine qP ?_
    all_goals refine qE ?_)
  all_goals first
  | fail_if_success with_reducible refine atC 17 ?_
  | (
    refine cn 17 ?_ ?_ <;> intro hc17 <;> try (cases hc17; done)
    all_goals refine st ?_)
  all_goals try have hss : os.length ≤ 1000000 := by have := szOws_len (l := os) (left := 1000000 - path.size) (by omega) (by omega); omega
  all_goals try have hel := szOws_hs (os := os) (left := 1000000 - path.size) (by omega) (by omega) (by omega)
  all_goals first
  | fail_if_success with_reducible refine atR 4 ?_
  | (
    refine rg 4 [] [some 4] 1 ?_
    all_goals refine qP ?_
    all_goals refine qE ?_)
  all_goals first
  | fail_if_success with_reducible refine atR 5 ?_
  | (
    refine rg 5 [] [some 18, some 19, some 20, some 21, some 6] 5 ?_
    all_goals refine qP ?_
    all_goals (
      refine qL_cons ?_
      intro R hR
      refine sm ?_
      refine call_fun (toTOws os false hss (fun _ _ => trivial)) [] ?_ (.inl rfl) ?_
      · exact ⟨.inl rfl, ⟨.inl rfl, trivial⟩⟩
      refine sm ?_
      all_goals (refine hR _ ?_; clear hR R))
    all_goals refine qP ?_
    all_goals (
      refine qL_cons ?_
      intro R hR
      refine sm ?_
      refine call_fun (specOwnerOf os path hel hp) [] ?_ (.inl rfl) ?_
      · exact ⟨arg_bare (toOws_bare os false) (on_toOws _ os false), ⟨.inl rfl, trivial⟩⟩
      refine sm ?_
      all_goals (refine hR _ ?_; clear hR R))
    all_goals refine qP ?_
    all_goals refine qE ?_)
  all_goals first
  | fail_if_success with_reducible refine atR 6 ?_
  | (
    refine rg 6 [] [some 22, some 23, some 7] 3 ?_
    all_goals refine qP ?_
    all_goals (
      refine qL_cons ?_
      intro R hR
      refine sm ?_
      refine call_fun (toTOws os false hss (fun _ _ => trivial)) [] ?_ (.inl rfl) ?_
      · exact ⟨.inl rfl, ⟨.inl rfl, trivial⟩⟩
      refine sm ?_
      all_goals (refine hR _ ?_; clear hR R))
    all_goals refine qP ?_
    all_goals refine qE ?_)
  all_goals first
  | fail_if_success with_reducible refine atR 7 ?_
  | (
    refine rg 7 [] [some 24, some 25, some 26, some 8] 4 ?_
    all_goals iterate 2 refine qP ?_
    all_goals (
      refine qL_cons ?_
      intro R hR
      refine sm ?_
      refine call_fun (implOwnerOf os path hel hp) [] ?_ (.inl rfl) ?_
      · exact ⟨arg_bare (toOws_bare os false) (on_toOws _ os false), ⟨.inl rfl, trivial⟩⟩
      refine sm ?_
      all_goals (refine hR _ ?_; clear hR R))
    all_goals refine qP ?_
    all_goals refine qE ?_)
  all_goals first
  | fail_if_success with_reducible refine atR 8 ?_
  | (
    refine rg 8 [] [some 27, some 28, some 29] 3 ?_
    all_goals iterate 3 refine qP ?_
    all_goals refine qE ?_)
  all_goals first
  | fail_if_success with_reducible refine atC 29 ?_
  | (
    refine cn 29 ?_ ?_ <;> intro hc29 <;> try (cases hc29; done)
    all_goals refine st ?_)
  all_goals first
  | fail_if_success with_reducible refine atR 9 ?_
  | (
    refine rg 9 [] [some 4] 1 ?_
    all_goals refine qP ?_
    all_goals refine qE ?_)
  all_goals first
  | fail_if_success with_reducible refine atR 10 ?_
  | (
    refine rg 10 [] [some 30, some 31, some 32, some 33, some 34] 5 ?_
    all_goals iterate 2 refine qP ?_
    all_goals (
      refine qL_cons ?_
      intro R hR
      refine sm ?_
      refine call_fun (toTOws os false hss (fun _ _ => trivial)) [] ?_ (.inl rfl) ?_
      · exact ⟨.inl rfl, ⟨.inl rfl, trivial⟩⟩
      refine sm ?_
      all_goals (refine hR _ ?_; clear hR R))
    all_goals (
      refine qL_cons ?_
      intro R hR
      refine sm ?_
      refine call_fun (inTOws os hss) [] ?_ (.inl rfl) ?_
      · exact ⟨.inl rfl, ⟨.inl rfl, trivial⟩⟩
      refine sm ?_
      all_goals (refine hR _ ?_; clear hR R))
    all_goals refine qP ?_
    all_goals refine qE ?_)
  all_goals first
  | fail_if_success with_reducible refine atC 34 ?_
  | (
    refine cn 34 ?_ ?_ <;> intro hc34 <;> try (cases hc34; done)
    all_goals refine st ?_)
  all_goals first
  | fail_if_success with_reducible refine atR 11 ?_
  | (
    refine rg 11 [] [some 4] 1 ?_
    all_goals refine qP ?_
    all_goals refine qE ?_)
  all_goals first
  | fail_if_success with_reducible refine atR 12 ?_
  | (
    refine rg 12 [] [some 35, some 36, some 37, some 38, some 9] 5 ?_
    all_goals refine qP ?_
    all_goals (
      refine qL_cons ?_
      intro R hR
      refine sm ?_
      refine call_fun (toTOws os true hss (fun _ _ => trivial)) [] ?_ (.inl rfl) ?_
      · exact ⟨.inl rfl, ⟨.inl rfl, trivial⟩⟩
      refine sm ?_
      all_goals (refine hR _ ?_; clear hR R))
    all_goals refine qP ?_
    all_goals (
      refine qL_cons ?_
      intro R hR
      refine sm ?_
      refine call_fun (implOwnerOf os path hel hp) [] ?_ (.inl rfl) ?_
      · exact ⟨arg_bare (toOws_bare os true) (on_toOws _ os true), ⟨.inl rfl, trivial⟩⟩
      refine sm ?_
      all_goals (refine hR _ ?_; clear hR R))
    all_goals refine qP ?_
    all_goals refine qE ?_)
  all_goals first
  | fail_if_success with_reducible refine atR 13 ?_
  | (
    refine rg 13 [] [some 39, some 40, some 41] 3 ?_
    all_goals iterate 3 refine qP ?_
    all_goals refine qE ?_)
  all_goals first
  | fail_if_success with_reducible refine atC 41 ?_
  | (
    refine cn 41 ?_ ?_ <;> intro hc41 <;> try (cases hc41; done)
    all_goals refine st ?_)
  all_goals first
  | fail_if_success with_reducible refine atR 14 ?_
  | (
    refine rg 14 [] [some 4] 1 ?_
    all_goals refine qP ?_
    all_goals refine qE ?_)
  all_goals first
  | fail_if_success with_reducible refine atR 15 ?_
  | (
    refine rg 15 [] [some 4] 1 ?_
    all_goals refine qP ?_
    all_goals refine qE ?_)
  all_goals first
  | fail_if_success with_reducible refine ret_fun (t := 4) ?_ ?_
  | (
    refine ret_fun (t := 4) ?_ (fun _ => rfl)
    first
    | exact cl
    | (
      try refine sm ?_
      all_goals (
       simp_all)))

theorem exactOwnerOf_law (os : List Ow) (path : ByteArray) (hp2 : path.size ≤ 140737488351232) (hn : os.length ≤ 140737488351232) : Fun Tryd.prog 5 [.d (.of owX os), .d (.str path)] (.d (.bool true)) := by
  by_cases h : path.size ≤ 1000000
  · exact exactOwnerOf_ok os path h
  · exact exactOwnerOf_big os path (by omega) hp2 hn
end
end Go.Proofs.YtkbnkcdaiahoeaaDoor
