/- strings.Split and strings.HasPrefix; paths, of the program; a text cut at a byte, of the reference; the two ways to see a path are one. No condition. -/
import Derived.Test.YtkbnkcdaiahoeaaDoorE16
import Derived.Test.YtkbnkcdaiahoeaaDoorE28
import Derived.Test.YtkbnkcdaiahoeaaDoorAxJ
import Derived.Test.YtkbnkcdaiahoeaaDoorE9
namespace Go.Proofs.YtkbnkcdaiahoeaaDoor
open Go Go.RowKit Go.Shelf
set_option maxRecDepth 100000
set_option maxHeartbeats 4000000
set_option linter.unusedSimpArgs false
set_option linter.unusedVariables false
def lay221_ren : Ren := { f := fun x => match x with | 221 => 69 | 268 => 86 | 138 => 87 | 143 => 77 | 195 => 98 | 197 => 99 | 218 => 100 | 219 => 89 | 260 => 114 | 217 => 102 | 225 => 103 | 224 => 104 | 267 => 105 | 266 => 115 | 314 => 116 | n => n, t := fun x => match x with | 9 => 9 | 3 => 3 | 31 => 39 | 4 => 4 | 0 => 0 | 105 => 101 | 21 => 21 | 5 => 5 | 46 => 104 | 119 => 130 | 139 => 133 | 138 => 132 | 146 => 118 | 51 => 117 | n => n, g := fun x => match x with | 1 => 1 | 3 => 5 | 4 => 6 | n => n }
theorem lay221 : Lays.n221 Tryd.prog lay221_ren :=
  { mixed := Eq.refl true, f138 := Eq.trans Tryd.func87 (congrArg some (by kernel_rfl)), f143 := Eq.trans Tryd.func77 (congrArg some (by kernel_rfl)), f195 := Eq.trans Tryd.func98 (congrArg some (by kernel_rfl)), f197 := Eq.trans Tryd.func99 (congrArg some (by kernel_rfl)), f217 := Eq.trans Tryd.func102 (congrArg some (by kernel_rfl)), f218 := Eq.trans Tryd.func100 (congrArg some (by kernel_rfl)), f219 := Eq.trans Tryd.func89 (congrArg some (by kernel_rfl)), f221 := Eq.trans Tryd.func69 (congrArg some (by kernel_rfl)), f224 := Eq.trans Tryd.func104 (congrArg some (by kernel_rfl)), f225 := Eq.trans Tryd.func103 (congrArg some (by kernel_rfl)), f260 := Eq.trans Tryd.func114 (congrArg some (by kernel_rfl)), f266 := Eq.trans Tryd.func115 (congrArg some (by kernel_rfl)), f267 := Eq.trans Tryd.func105 (congrArg some (by kernel_rfl)), f268 := Eq.trans Tryd.func86 (congrArg some (by kernel_rfl)), f314 := Eq.trans Tryd.func116 (congrArg some (by kernel_rfl)), t0 := Tryd.underlying0, a0 := Tryd.isAgg0, z0 := Tryd.sizeOf0, v0 := Tryd.zeroValue0, t3 := Tryd.underlying3, a3 := Tryd.isAgg3, z3 := Tryd.sizeOf3, v3 := Tryd.zeroValue3, t4 := Tryd.underlying4, a4 := Tryd.isAgg4, z4 := Tryd.sizeOf4, v4 := Tryd.zeroValue4, t5 := Tryd.underlying5, a5 := Tryd.isAgg5, z5 := Tryd.sizeOf5, v5 := Tryd.zeroValue5, t9 := Tryd.underlying9, a9 := Tryd.isAgg9, z9 := Tryd.sizeOf9, v9 := Tryd.zeroValue9, t21 := Tryd.underlying21, a21 := Tryd.isAgg21, z21 := Tryd.sizeOf21, v21 := Tryd.zeroValue21, t31 := Tryd.underlying39, a31 := Tryd.isAgg39, z31 := Tryd.sizeOf39, v31 := Tryd.zeroValue39, t46 := Tryd.underlying104, a46 := Tryd.isAgg104, z46 := Tryd.sizeOf104, v46 := Tryd.zeroValue104, t51 := Tryd.underlying117, a51 := Tryd.isAgg117, z51 := Tryd.sizeOf117, v51 := Tryd.zeroValue117, t105 := Tryd.underlying101, a105 := Tryd.isAgg101, z105 := Tryd.sizeOf101, v105 := Tryd.zeroValue101, t119 := Tryd.underlying130, a119 := Tryd.isAgg130, z119 := Tryd.sizeOf130, t138 := Tryd.underlying132, a138 := Tryd.isAgg132, z138 := Tryd.sizeOf132, v138 := Tryd.zeroValue132, t139 := Tryd.underlying133, a139 := Tryd.isAgg133, z139 := Tryd.sizeOf133, v139 := Tryd.zeroValue133, t146 := Tryd.underlying118, a146 := Tryd.isAgg118, z146 := Tryd.sizeOf118, v146 := Tryd.zeroValue118, g1 := by kernel_rfl, g3 := by kernel_rfl, g4 := by kernel_rfl }
def lay144_ren : Ren := { f := fun x => match x with | 144 => 52 | 143 => 77 | 219 => 89 | 217 => 102 | 225 => 103 | 224 => 104 | 267 => 105 | 266 => 115 | 314 => 116 | n => n, t := fun x => match x with | 9 => 9 | 4 => 4 | 3 => 3 | 5 => 5 | 46 => 104 | 146 => 118 | 51 => 117 | n => n, g := fun x => match x with | 1 => 1 | n => n }
theorem lay144 : Lays.n144 Tryd.prog lay144_ren :=
  { mixed := Eq.refl true, f143 := Eq.trans Tryd.func77 (congrArg some (by kernel_rfl)), f144 := Eq.trans Tryd.func52 (congrArg some (by kernel_rfl)), f217 := Eq.trans Tryd.func102 (congrArg some (by kernel_rfl)), f219 := Eq.trans Tryd.func89 (congrArg some (by kernel_rfl)), f224 := Eq.trans Tryd.func104 (congrArg some (by kernel_rfl)), f225 := Eq.trans Tryd.func103 (congrArg some (by kernel_rfl)), f266 := Eq.trans Tryd.func115 (congrArg some (by kernel_rfl)), f267 := Eq.trans Tryd.func105 (congrArg some (by kernel_rfl)), f314 := Eq.trans Tryd.func116 (congrArg some (by kernel_rfl)), t3 := Tryd.underlying3, a3 := Tryd.isAgg3, z3 := Tryd.sizeOf3, v3 := Tryd.zeroValue3, t4 := Tryd.underlying4, a4 := Tryd.isAgg4, z4 := Tryd.sizeOf4, v4 := Tryd.zeroValue4, t5 := Tryd.underlying5, a5 := Tryd.isAgg5, z5 := Tryd.sizeOf5, v5 := Tryd.zeroValue5, t9 := Tryd.underlying9, a9 := Tryd.isAgg9, z9 := Tryd.sizeOf9, v9 := Tryd.zeroValue9, t46 := Tryd.underlying104, a46 := Tryd.isAgg104, z46 := Tryd.sizeOf104, v46 := Tryd.zeroValue104, t51 := Tryd.underlying117, a51 := Tryd.isAgg117, z51 := Tryd.sizeOf117, v51 := Tryd.zeroValue117, t146 := Tryd.underlying118, a146 := Tryd.isAgg118, z146 := Tryd.sizeOf118, v146 := Tryd.zeroValue118, g1 := by kernel_rfl }
/-- A text cut at each byte c. -/
def pcs (c : UInt8) (s : ByteArray) : List ByteArray := Lib.splitB ⟨#[c]⟩ 0 (Lib.countB s ⟨#[c]⟩) s
theorem genSplit_s (s : ByteArray) (c : UInt8) (hs : s.size ≤ 1000000) : FunR Tryd.prog 69 [.d (.str s), .d (.str ⟨#[c]⟩), .d (.int .i64 0), .d (.int .i64 (-1))] (fun m => .vec m 1 0 (pcs c s).length) (.vec 9 1 ((pcs c s).map sS)) := by
  have hle := Lib.countB_le ⟨#[c]⟩ (Nat.le_refl 1) s.size s (Nat.le_refl _)
  exact genSplit_spec (lay221) (by kernel_rfl) (by kernel_rfl) s c (-1) (Lib.countB s ⟨#[c]⟩ + 1) (by omega) (by decide) (by decide) (by rw [if_pos (by decide)]; omega)
theorem pcs_len (c : UInt8) (s : ByteArray) : (pcs c s).length ≤ s.size + 1 := by
  have hle := Lib.countB_le ⟨#[c]⟩ (Nat.le_refl 1) s.size s (Nat.le_refl _)
  have := Lib.splitB_all ⟨#[c]⟩ (Nat.le_refl 1) 0 _ s rfl
  unfold pcs
  omega
/-- A path: names with strokes between. -/
def pthB (s : ByteArray) : Bool := decide (((pcs 47 s).length : Int) ≤ 3) && (pcs 47 s).all nmB
theorem any_notN (ss : List ByteArray) : (!ss.any fun s => !nmB s) = ss.all nmB := by
  induction ss with
  | nil => rfl
  | cons s r ih => simp [List.any_cons, List.all_cons, Bool.not_or, ih]
/-- p is ahead of s. -/
def hpB (s p : ByteArray) : Bool := decide ((p.size : Int) ≤ (s.size : Int)) && decide (s.extract 0 p.size = p)
def pinB (dir path : ByteArray) : Bool := pthB dir && pthB path && hpB path (dir ++ ⟨#[47]⟩)
def atB (dir path : ByteArray) : Bool := decide (dir = path) || pinB dir path
attribute [local go_sem] List.size_toArray Int.toNat_zero Nat.sub_zero size_mk top_val eq_self datL X.dat u8min u8max i64min i64max stepT gdO aop ev lit litOk putF fzX_false putO upd app List.contains_nil List.elem_nil aBin aInt aStr aBool aLen lenTy aBuiltin aLoad aTake aTakeX aStore splice aSlice aBd look_cons look_nil lookC_cons lookC_nil by_s by_C start_s start_C X.cells X.cell List.all_cons List.all_nil Bool.and_self Bool.not_true Bool.not_false false_implies true_implies forall_const and_true true_and and_self implies_true not_false_eq_true Nat.zero_add Nat.add_zero List.getD_cons_zero List.getD_cons_succ List.map_cons List.map_nil Option.bind_some Option.map_some Option.map_none List.getElem?_cons_zero List.getElem?_cons_succ List.length_cons List.length_nil List.drop_zero List.drop_succ_cons List.take_succ_cons List.take_zero List.cons_append List.nil_append List.append_nil D.of List.length_map all_get_map Option.isSome_some and_false false_and Nat.lt_add_one Nat.zero_lt_succ decide_true decide_false aPart aSl2 Nat.lt_irrefl fzX litEs List.contains_cons List.elem_cons Bool.true_or Bool.or_true Bool.false_or Bool.or_false beq_self_eq_true
section
attribute [local go_sem] tsz9 tsz39 tel39 toNat_cast und9 tz9l iz9 aDst aSrc sS
theorem Split_spec (s : ByteArray) (c : UInt8) (hs : s.size ≤ 1000000) : FunR Tryd.prog 42 [.d (.str s), .d (.str ⟨#[c]⟩)] (fun m => .vec m 1 0 (pcs c s).length) (.vec 9 1 ((pcs c s).map sS)) := by
  refine FunR.of ?_ rfl
  refine Spec.of (fn := Tryd.f42) Tryd.func42 rfl (by kernel_rfl) (rs := [.tmp 4]) rfl 1 (by simp [Tryd.f42]) rfl (by simp) ?_
  intro hreal
  rintro ⟨P, T, L0, w0, ι0, C0, U0⟩ hP hT hU
  subst hP hT
  refine st ?_
  all_goals first
  | fail_if_success with_reducible refine atR 0 ?_
  | (
    refine rg 0 [] [some 4] 1 ?_
    all_goals refine qP ?_
    all_goals refine qE ?_)
  all_goals first
  | fail_if_success with_reducible refine atR 1 ?_
  | (
    refine rg 1 [] [some 5, some 6, some 7, some 4] 4 ?_
    all_goals iterate 2 refine qP ?_
    all_goals (
      refine qL_cons ?_
      intro R hR
      refine sm ?_
      refine call_row (genSplit_s s c hs) [] ?_ (.inl rfl) ?_
      · exact ⟨.inl rfl, ⟨.inl rfl, ⟨.inl rfl, ⟨.inl rfl, trivial⟩⟩⟩⟩
      refine sm ?_
      all_goals (refine hR _ ?_; clear hR R))
    all_goals refine qP ?_
    all_goals refine qE ?_)
  all_goals exact ret_vec 4 hU cl cl

end
section
attribute [local go_sem] tsz9 tsz39 tel39 toNat_cast und9 tz9l iz9 aDst aSrc sS
theorem PathOk1_spec (s : ByteArray) : Fun Tryd.prog 44 [.d (.str s)] (.d (.bool (!nmB s))) := by
  refine Fun.of ?_ rfl rfl
  refine Spec.of (fn := Tryd.f44) Tryd.func44 rfl (by kernel_rfl) (rs := [.tmp 2]) rfl 1 (by simp [Tryd.f44]) rfl (by simp) ?_
  intro hreal
  rintro ⟨P, T, L0, w0, ι0, C0, U0⟩ hP hT hU
  subst hP hT
  refine st ?_
  all_goals first
  | fail_if_success with_reducible refine atR 0 ?_
  | (
    refine rg 0 [] [some 2] 1 ?_
    all_goals refine qP ?_
    all_goals refine qE ?_)
  all_goals first
  | fail_if_success with_reducible refine atR 1 ?_
  | (
    refine rg 1 [] [some 3, some 4, some 5, some 2] 4 ?_
    all_goals refine qP ?_
    all_goals (
      refine qL_cons ?_
      intro R hR
      refine sm ?_
      refine call_fun (nameOk_spec s) [] ?_ (.inl rfl) ?_
      · exact ⟨.inl rfl, trivial⟩
      refine sm ?_
      all_goals (refine hR _ ?_; clear hR R))
    all_goals iterate 2 refine qP ?_
    all_goals refine qE ?_)
  all_goals first
  | fail_if_success with_reducible refine ret_fun (t := 2) ?_ ?_
  | (
    refine ret_fun (t := 2) ?_ (fun _ => rfl)
    first
    | exact cl
    | (
      try refine sm ?_
      all_goals (
       rfl)))

end
section
attribute [local go_sem] tsz9 tsz39 tel39 toNat_cast und9 tz9l iz9 aDst aSrc sS
theorem PathOk_spec (s : ByteArray) (hs : s.size ≤ 1000000) : Fun Tryd.prog 17 [.d (.str s)] (.d (.bool (pthB s))) := by
  refine Fun.of ?_ rfl rfl
  refine Spec.of (fn := Tryd.f17) Tryd.func17 rfl (by kernel_rfl) (rs := [.tmp 2]) rfl 1 (by simp [Tryd.f17]) rfl (by simp) ?_
  intro hreal
  rintro ⟨P, T, L0, w0, ι0, C0, U0⟩ hP hT hU
  subst hP hT
  refine st ?_
  have hpl := pcs_len 47 s
  all_goals first
  | fail_if_success with_reducible refine atR 0 ?_
  | (
    refine rg 0 [] [some 2] 1 ?_
    all_goals refine qP ?_
    all_goals refine qE ?_)
  all_goals first
  | fail_if_success with_reducible refine atR 1 ?_
  | (
    refine rg 1 [] [some 4, some 5, some 3] 3 ?_
    all_goals refine qP ?_
    all_goals (
      refine qL_cons ?_
      intro R hR
      refine sm ?_
      refine call_row (Split_spec s 47 hs) [] ?_ (.inl rfl) ?_
      · exact ⟨.inl rfl, ⟨.inl rfl, trivial⟩⟩
      refine sm ?_
      all_goals (refine hR _ ?_; clear hR R))
    all_goals refine qP ?_
    all_goals refine qE ?_)
  all_goals first
  | fail_if_success with_reducible refine atR 2 ?_
  | (
    refine rg 2 [] [some 6, some 7, some 8, some 9, some 10, some 11, some 12, some 13, some 2] 9 ?_
    all_goals iterate 4 refine qP ?_
    all_goals first | refine qU 9 ?_ | (refine qS 9 ?_ ?_ <;> intro hg2_3 <;> try (cases hg2_3; done))
    all_goals refine qP ?_
    all_goals first
    | (
      refine qL_cons ?_
      intro R hR
      refine sm ?_
      refine call_fun (ContainsFuncS_spec (pcs 47 s) 44 [] (fun s => !nmB s) (fun _ => rfl) (fun _ _ => trivial) PathOk1_spec) [3] ?_ (.inr rfl) ?_
      · exact ⟨.inr (lend_of (by simp) (by simp) cl (by simp)), ⟨.inl rfl, trivial⟩⟩
      refine sm ?_
      refine hR _ ?_
      clear hR R)
    | refine qP ?_
    all_goals iterate 3 refine qP ?_
    all_goals refine qE ?_)
  all_goals first
  | fail_if_success with_reducible refine ret_fun (t := 2) ?_ ?_
  | (
    refine ret_fun (t := 2) ?_ (fun _ => rfl)
    first
    | exact cl
    | (
      try refine sm ?_
      all_goals (
       (congr 2; simp only [any_notN, pthB]; simp_all; try (intro h; omega)))))

end
section
attribute [local go_sem] tsz9 tsz39 tel39 toNat_cast und9 tz9l iz9 aDst aSrc sS
theorem HasPrefix0_spec (s p : ByteArray) : Fun Tryd.prog 71 [.d (.str s), .d (.str p)] (.d (.bool (hpB s p))) := by
  refine Fun.of ?_ rfl rfl
  refine Spec.of (fn := Tryd.f71) Tryd.func71 rfl (by kernel_rfl) (rs := [.tmp 4]) rfl 1 (by simp [Tryd.f71]) rfl (by simp) ?_
  intro hreal
  rintro ⟨P, T, L0, w0, ι0, C0, U0⟩ hP hT hU
  subst hP hT
  refine st ?_
  all_goals first
  | fail_if_success with_reducible refine atR 0 ?_
  | (
    refine rg 0 [] [some 4] 1 ?_
    all_goals refine qP ?_
    all_goals refine qE ?_)
  all_goals first
  | fail_if_success with_reducible refine atR 1 ?_
  | (
    refine rg 1 [] [some 5, some 6, some 7, some 8, some 9, some 10, some 11, some 12, some 13, some 14, some 15, some 16, some 17, some 4] 14 ?_
    all_goals iterate 6 refine qP ?_
    all_goals first | refine qU 10 ?_ | (refine qS 10 ?_ ?_ <;> intro hg1_5 <;> try (cases hg1_5; done))
    all_goals iterate 3 refine qP ?_
    all_goals first
    | (
      refine qL_cons ?_
      intro R hR
      refine sm ?_
      refine ⟨⟨by omega, by omega⟩, ?_⟩
      refine hR _ ?_
      clear hR R)
    | refine qP ?_
    all_goals iterate 4 refine qP ?_
    all_goals refine qE ?_)
  all_goals first
  | fail_if_success with_reducible refine ret_fun (t := 4) ?_ ?_
  | (
    refine ret_fun (t := 4) ?_ (fun _ => rfl)
    first
    | exact cl
    | (
      try refine sm ?_
      all_goals (
       (congr 2; simp only [hpB]; simp_all; try (intro h; omega)))))

end
section
attribute [local go_sem] tsz9 tsz39 tel39 toNat_cast und9 tz9l iz9 aDst aSrc sS
theorem HasPrefix_spec (s p : ByteArray) : Fun Tryd.prog 45 [.d (.str s), .d (.str p)] (.d (.bool (hpB s p))) := by
  refine Fun.of ?_ rfl rfl
  refine Spec.of (fn := Tryd.f45) Tryd.func45 rfl (by kernel_rfl) (rs := [.tmp 4]) rfl 1 (by simp [Tryd.f45]) rfl (by simp) ?_
  intro hreal
  rintro ⟨P, T, L0, w0, ι0, C0, U0⟩ hP hT hU
  subst hP hT
  refine st ?_
  all_goals first
  | fail_if_success with_reducible refine atR 0 ?_
  | (
    refine rg 0 [] [some 4] 1 ?_
    all_goals refine qP ?_
    all_goals refine qE ?_)
  all_goals first
  | fail_if_success with_reducible refine atR 1 ?_
  | (
    refine rg 1 [] [some 5, some 6, some 7, some 4] 4 ?_
    all_goals iterate 2 refine qP ?_
    all_goals (
      refine qL_cons ?_
      intro R hR
      refine sm ?_
      refine call_fun (HasPrefix0_spec s p) [] ?_ (.inl rfl) ?_
      · exact ⟨.inl rfl, ⟨.inl rfl, trivial⟩⟩
      refine sm ?_
      all_goals (refine hR _ ?_; clear hR R))
    all_goals refine qP ?_
    all_goals refine qE ?_)
  all_goals first
  | fail_if_success with_reducible refine ret_fun (t := 4) ?_ ?_
  | (
    refine ret_fun (t := 4) ?_ (fun _ => rfl)
    first
    | exact cl
    | (
      try refine sm ?_
      all_goals (
       rfl)))

end
section
attribute [local go_sem] tsz9 tsz39 tel39 toNat_cast und9 tz9l iz9 aDst aSrc sS
theorem PathIn_spec (dir path : ByteArray) (hd : dir.size ≤ 1000000) (hp : path.size ≤ 1000000) : Fun Tryd.prog 18 [.d (.str dir), .d (.str path)] (.d (.bool (pinB dir path))) := by
  refine Fun.of ?_ rfl rfl
  refine Spec.of (fn := Tryd.f18) Tryd.func18 rfl (by kernel_rfl) (rs := [.tmp 4]) rfl 1 (by simp [Tryd.f18]) rfl (by simp) ?_
  intro hreal
  rintro ⟨P, T, L0, w0, ι0, C0, U0⟩ hP hT hU
  subst hP hT
  refine st ?_
  all_goals first
  | fail_if_success with_reducible refine atR 0 ?_
  | (
    refine rg 0 [] [some 4] 1 ?_
    all_goals refine qP ?_
    all_goals refine qE ?_)
  all_goals first
  | fail_if_success with_reducible refine atR 1 ?_
  | (
    refine rg 1 [] [some 5, some 6, some 7, some 8, some 9, some 10, some 11, some 12, some 13, some 14, some 15, some 16, some 4] 13 ?_
    all_goals refine qP ?_
    all_goals (
      refine qL_cons ?_
      intro R hR
      refine sm ?_
      refine call_fun (PathOk_spec dir hd) [] ?_ (.inl rfl) ?_
      · exact ⟨.inl rfl, trivial⟩
      refine sm ?_
      all_goals (refine hR _ ?_; clear hR R))
    all_goals refine qP ?_
    all_goals first | refine qU 7 ?_ | (refine qS 7 ?_ ?_ <;> intro hg1_2 <;> try (cases hg1_2; done))
    all_goals refine qP ?_
    all_goals first
    | (
      refine qL_cons ?_
      intro R hR
      refine sm ?_
      refine call_fun (PathOk_spec path hp) [] ?_ (.inl rfl) ?_
      · exact ⟨.inl rfl, trivial⟩
      refine sm ?_
      refine hR _ ?_
      clear hR R)
    | refine qP ?_
    all_goals iterate 2 refine qP ?_
    all_goals first | refine qU 11 ?_ | (refine qS 11 ?_ ?_ <;> intro hg1_6 <;> try (cases hg1_6; done))
    all_goals iterate 2 refine qP ?_
    all_goals first
    | (
      refine qL_cons ?_
      intro R hR
      refine sm ?_
      refine ⟨by omega, ?_⟩
      refine hR _ ?_
      clear hR R)
    | refine qP ?_
    all_goals first
    | (
      refine qL_cons ?_
      intro R hR
      refine sm ?_
      refine call_fun (HasPrefix_spec path (dir ++ ⟨#[47]⟩)) [] ?_ (.inl rfl) ?_
      · exact ⟨.inl rfl, ⟨.inl rfl, trivial⟩⟩
      refine sm ?_
      refine hR _ ?_
      clear hR R)
    | refine qP ?_
    all_goals iterate 2 refine qP ?_
    all_goals refine qE ?_)
  all_goals first
  | fail_if_success with_reducible refine ret_fun (t := 4) ?_ ?_
  | (
    refine ret_fun (t := 4) ?_ (fun _ => rfl)
    first
    | exact cl
    | (
      try refine sm ?_
      all_goals (
       (congr 2; simp only [pinB]; simp_all; done))))

end
section
attribute [local go_sem] tsz9 tsz39 tel39 toNat_cast und9 tz9l iz9 aDst aSrc sS
theorem isAt_spec (dir path : ByteArray) (hd : dir.size ≤ 1000000) (hp : path.size ≤ 1000000) : Fun Tryd.prog 39 [.d (.str dir), .d (.str path)] (.d (.bool (atB dir path))) := by
  refine Fun.of ?_ rfl rfl
  refine Spec.of (fn := Tryd.f39) Tryd.func39 rfl (by kernel_rfl) (rs := [.tmp 4]) rfl 1 (by simp [Tryd.f39]) rfl (by simp) ?_
  intro hreal
  rintro ⟨P, T, L0, w0, ι0, C0, U0⟩ hP hT hU
  subst hP hT
  refine st ?_
  all_goals first
  | fail_if_success with_reducible refine atR 0 ?_
  | (
    refine rg 0 [] [some 4] 1 ?_
    all_goals refine qP ?_
    all_goals refine qE ?_)
  all_goals first
  | fail_if_success with_reducible refine atR 1 ?_
  | (
    refine rg 1 [] [some 5, some 6, some 7, some 8, some 9, some 10, some 11, some 12, some 4] 9 ?_
    all_goals iterate 4 refine qP ?_
    all_goals first | refine qU 8 ?_ | (refine qS 8 ?_ ?_ <;> intro hg1_3 <;> try (cases hg1_3; done))
    all_goals iterate 2 refine qP ?_
    all_goals first
    | (
      refine qL_cons ?_
      intro R hR
      refine sm ?_
      refine call_fun (PathIn_spec dir path hd hp) [] ?_ (.inl rfl) ?_
      · exact ⟨.inl rfl, ⟨.inl rfl, trivial⟩⟩
      refine sm ?_
      refine hR _ ?_
      clear hR R)
    | refine qP ?_
    all_goals iterate 2 refine qP ?_
    all_goals refine qE ?_)
  all_goals first
  | fail_if_success with_reducible refine ret_fun (t := 4) ?_ ?_
  | (
    refine ret_fun (t := 4) ?_ (fun _ => rfl)
    first
    | exact cl
    | (
      try refine sm ?_
      all_goals (
       (congr 2; simp only [atB]; simp_all; done))))

end
end Go.Proofs.YtkbnkcdaiahoeaaDoor
namespace Go.Proofs.YtkbnkcdaiahoeaaDoor
open Go Go.RowKit
set_option maxRecDepth 100000
set_option maxHeartbeats 4000000
set_option linter.unusedSimpArgs false
set_option linter.unusedVariables false
theorem indexByte_at (c : UInt8) : ∀ (l : List UInt8) (i : Nat), l[i]? = some c → (∀ k : Nat, k < i → l[k]? ≠ some c) → Lib.indexByte l c = i
  | [], i, h, _ => by simp at h
  | b :: l, 0, h, _ => by
    simp at h
    simp [Lib.indexByte, h]
  | b :: l, i + 1, h, hn => by
    have hb : b ≠ c := by
      intro e
      exact hn 0 (by omega) (by simp [e])
    have ih := indexByte_at c l i (by simpa using h) (fun k hk => by
      have := hn (k + 1) (by omega)
      simpa using this)
    simp only [Lib.indexByte, beq_iff_eq, if_neg hb, ih]
    rw [if_neg (by omega)]
    omega
theorem indexByte_none (c : UInt8) : ∀ (l : List UInt8), (∀ k : Nat, l[k]? ≠ some c) → Lib.indexByte l c = -1
  | [], _ => rfl
  | b :: l, hn => by
    have hb : b ≠ c := by
      intro e
      exact hn 0 (by simp [e])
    have ih := indexByte_none c l (fun k => by
      have := hn (k + 1)
      simpa using this)
    simp only [Lib.indexByte, beq_iff_eq, if_neg hb, ih, if_true]
/-- A text cut at a byte, k times at most. -/
def cutN (c : UInt8) (k : Nat) (s : ByteArray) : List ByteArray := Lib.splitB ⟨#[c]⟩ 0 k s
theorem ba_ext {a b : ByteArray} (h : a.data.toList = b.data.toList) : a = b := by
  cases a with
  | mk a => cases b with
    | mk b => simp only at h; rw [Array.toList_inj] at h; rw [h]
theorem ex_data (s : ByteArray) (a b : Nat) : (s.extract a b).data.toList = (s.data.toList.take b).drop a := by
  rw [Lib.extract_data, List.drop_take]
theorem cut_hit {c : UInt8} {k a i : Nat} {s : ByteArray} (hai : a ≤ i) (hi : i < s.size) (h : s.data[i]? = some c) (hn : ∀ j, a ≤ j → j < i → s.data[j]? ≠ some c) :
    cutN c (k + 1) (s.extract a s.size) = s.extract a i :: cutN c k (s.extract (i + 1) s.size) := by
  have hl : s.data.toList.length = s.size := (Lib.size_eq s).symm
  have hx : Lib.indexB (s.extract a s.size) ⟨#[c]⟩ = ((i - a : Nat) : Int) := by
    show Lib.index _ [c] = _
    rw [Lib.index_one, ex_data, List.take_of_length_le (by omega)]
    refine indexByte_at c _ _ ?_ (fun j hj => ?_)
    · rw [List.getElem?_drop, show a + (i - a) = i by omega]
      simpa using h
    · rw [List.getElem?_drop]
      have := hn (a + j) (by omega) (by omega)
      simpa using this
  unfold cutN
  rw [Lib.splitB_hit _ 0 k _ _ hx]
  have e1 : (s.extract a s.size).extract 0 (i - a + 0) = s.extract a i := ba_ext (by
    rw [ex_data, ex_data, ex_data, List.take_of_length_le (show s.data.toList.length ≤ s.size by omega), List.drop_zero, Nat.add_zero, List.drop_take])
  have e2 : (s.extract a s.size).extract (i - a + 1) (s.extract a s.size).size = s.extract (i + 1) s.size := ba_ext (by
    rw [ex_data, ex_data, ex_data, List.take_of_length_le (show s.data.toList.length ≤ s.size by omega), List.take_of_length_le (by first | (simp [ByteArray.size_extract]; done) | (simp [ByteArray.size_extract]; omega)), List.drop_drop] <;> (congr 1; omega))
  have e3 : (⟨#[c]⟩ : ByteArray).size = 1 := rfl
  rw [e1, e3, e2]
theorem cut_miss {c : UInt8} {k a : Nat} {s : ByteArray} (hn : ∀ j, a ≤ j → j < s.size → s.data[j]? ≠ some c) : cutN c k (s.extract a s.size) = [s.extract a s.size] := by
  have hl : s.data.toList.length = s.size := (Lib.size_eq s).symm
  refine Lib.splitB_miss _ 0 _ _ ?_
  show Lib.index _ [c] = _
  rw [Lib.index_one, ex_data, List.take_of_length_le (by omega)]
  refine indexByte_none c _ (fun j => ?_)
  rw [List.getElem?_drop]
  by_cases hj : a + j < s.size
  · have := hn (a + j) (by omega) hj
    simpa using this
  · rw [List.getElem?_eq_none (by omega)]
    simp
theorem cut_zero {c : UInt8} {s : ByteArray} : cutN c 0 s = [s] := rfl
theorem ext_all (s : ByteArray) : s.extract 0 s.size = s := ba_ext (by
  have hl : s.data.toList.length = s.size := (Lib.size_eq s).symm
  rw [ex_data, List.take_of_length_le (by omega), List.drop_zero])
theorem cut_one (c : UInt8) (k : Nat) (s : ByteArray) : (cutN c k s).length ≤ k + 1 := Lib.splitB_length_le _ _ _ _
/-- Cut at most three times, or as often as there are strokes: it is a path, or it is none. -/
theorem pth_cut (s : ByteArray) : (decide (((cutN 47 3 s).length : Int) ≤ 3) && (cutN 47 3 s).all nmB) = pthB s := by
  have h1 : (1 : Nat) ≤ (⟨#[47]⟩ : ByteArray).size := Nat.le_refl 1
  have hall := Lib.splitB_all ⟨#[47]⟩ h1 0 _ s rfl
  unfold pthB pcs cutN
  by_cases hc : Lib.countB s ⟨#[47]⟩ ≤ 2
  · rw [splitB_more ⟨#[47]⟩ h1 _ s rfl 3 (by omega)]
  · rw [splitB_len ⟨#[47]⟩ h1 3 s (by omega), hall, decide_eq_false (by omega), decide_eq_false (by omega), Bool.false_and, Bool.false_and]
/-- path is below dir. -/
def inB (dir path : ByteArray) : Bool := decide ((dir.size : Int) < (path.size : Int)) && decide (path.extract 0 dir.size = dir) && decide (path.data[dir.size]? = some 47)
theorem hp_in (dir path : ByteArray) : hpB path (dir ++ ⟨#[47]⟩) = inB dir path := by
  have hs : (dir ++ ⟨#[47]⟩ : ByteArray).size = dir.size + 1 := by rw [ByteArray.size_append]; rfl
  have hl : path.data.toList.length = path.size := (Lib.size_eq path).symm
  have hd : dir.data.toList.length = dir.size := (Lib.size_eq dir).symm
  unfold hpB inB
  rw [hs]
  by_cases hlt : dir.size < path.size
  · rw [decide_eq_true (show (((dir.size + 1 : Nat) : Int)) ≤ (path.size : Int) by omega), decide_eq_true (show (dir.size : Int) < (path.size : Int) by omega), Bool.true_and, Bool.true_and, ← Bool.decide_and]
    congr 1
    refine propext ⟨fun h => ?_, fun ⟨h1, h2⟩ => ?_⟩
    · have h' := congrArg (fun b => b.data.toList) h
      simp only [ex_data, List.drop_zero, ByteArray.data_append, Array.toList_append] at h'
      constructor
      · refine ba_ext ?_
        rw [ex_data, List.drop_zero]
        have := congrArg (List.take dir.size) h'
        rw [List.take_take, Nat.min_eq_left (by omega), List.take_left' hd] at this
        exact this
      · have := congrArg (fun l => l[dir.size]?) h'
        rw [List.getElem?_take_of_lt (by omega), List.getElem?_append_right (by omega), hd, Nat.sub_self] at this
        simpa using this
    · refine ba_ext ?_
      have h1' := congrArg (fun b => b.data.toList) h1
      simp only [ex_data, List.drop_zero] at h1'
      simp only [ex_data, List.drop_zero, ByteArray.data_append, Array.toList_append]
      rw [List.take_add_one, h1']
      have : path.data.toList[dir.size]? = some 47 := by simpa using h2
      rw [this]
      rfl
  · rw [decide_eq_false (show ¬ (((dir.size + 1 : Nat) : Int)) ≤ (path.size : Int) by omega), decide_eq_false (show ¬ (dir.size : Int) < (path.size : Int) by omega), Bool.false_and, Bool.false_and, Bool.false_and]
attribute [local go_sem] List.size_toArray Int.toNat_zero Nat.sub_zero size_mk top_val eq_self datL X.dat u8min u8max i64min i64max stepT gdO aop ev lit litOk putF fzX_false putO upd app List.contains_nil List.elem_nil aBin aInt aStr aBool aLen lenTy aBuiltin aLoad aTake aTakeX aStore splice aSlice aBd look_cons look_nil lookC_cons lookC_nil by_s by_C start_s start_C X.cells X.cell List.all_cons List.all_nil Bool.and_self Bool.not_true Bool.not_false false_implies true_implies forall_const and_true true_and and_self implies_true not_false_eq_true Nat.zero_add Nat.add_zero List.getD_cons_zero List.getD_cons_succ List.map_cons List.map_nil Option.bind_some Option.map_some Option.map_none List.getElem?_cons_zero List.getElem?_cons_succ List.length_cons List.length_nil List.drop_zero List.drop_succ_cons List.take_succ_cons List.take_zero List.cons_append List.nil_append List.append_nil D.of List.length_map all_get_map Option.isSome_some and_false false_and Nat.lt_add_one Nat.zero_lt_succ decide_true decide_false aPart aSl2 Nat.lt_irrefl fzX litEs List.contains_cons List.elem_cons Bool.true_or Bool.or_true Bool.false_or Bool.or_false beq_self_eq_true
section
attribute [local go_sem] tsz9 tsz39 tel39 toNat_cast und9 tz9l iz9 aDst aSrc sS
theorem l1Cut_spec (s : ByteArray) (c : UInt8) (k : Nat) (hs : s.size ≤ 1000000) (hk : k ≤ 1000000) : FunR Tryd.prog 67 [.d (.str s), .d (.int .u8 c.toNat), .d (.int .i64 k)] (fun m => .vec m 1 0 (cutN c k s).length) (.vec 9 1 ((cutN c k s).map sS)) := by
  refine FunR.of ?_ rfl
  refine Spec.of (fn := Tryd.f67) Tryd.func67 rfl (by kernel_rfl) (rs := [.tmp 6]) rfl 1 (by simp [Tryd.f67]) rfl (by simp) ?_
  intro hreal
  rintro ⟨P, T, L0, w0, ι0, C0, U0⟩ hP hT hU
  subst hP hT
  refine st ?_
  all_goals first
  | fail_if_success with_reducible refine atR 0 ?_
  | (
    refine rg 0 [] [some 6] 1 ?_
    all_goals refine qP ?_
    all_goals refine qE ?_)
  all_goals first
  | fail_if_success with_reducible refine atR 1 ?_
  | (
    refine rg 1 [] [some 10, some 7] 2 ?_
    all_goals iterate 2 refine qP ?_
    all_goals refine qE ?_)
  all_goals first
  | fail_if_success with_reducible refine atR 2 ?_
  | (
    refine rg 2 [] [some 8] 1 ?_
    all_goals refine qP ?_
    all_goals refine qE ?_)
  all_goals first
  | fail_if_success with_reducible refine atR 3 ?_
  | (
    refine rg 3 [] [some 9] 1 ?_
    all_goals refine qP ?_
    all_goals refine qE ?_)
  all_goals first
  | fail_if_success with_reducible refine AW.rounds (α := (Nat × Nat × List ByteArray)) ?_ ?_ ?_ ?_ ?_ ?_ ?_ ?_
  | (
    refine AW.rounds (α := (Nat × Nat × List ByteArray)) (fun z => z.2.1 ≤ z.1 ∧ z.1 ≤ s.size ∧ z.2.2.length ≤ k ∧ (∀ j, z.2.1 ≤ j → j < z.1 → s.data[j]? ≠ some c) ∧ cutN c k s = z.2.2 ++ cutN c (k - z.2.2.length) (s.extract z.2.1 s.size)) (fun z => St.by [(0, .d (.str s)), (1, .d (.int .u8 c.toNat)), (2, .d (.int .i64 k)), (7, .vec 2 1 0 z.2.2.length), (8, .d (.int .i64 z.2.1)), (9, .d (.int .i64 z.1))] [(2, .vec 9 1 (z.2.2.map sS))]) (fun z => s.size - z.1) 6 (0, 0, []) ?_ ?_ ?_
    · refine ⟨Nat.le_refl _, Nat.zero_le _, Nat.zero_le _, fun j h1 h2 => by simp only at h2; omega, ?_⟩
      simp only [List.nil_append, List.length_nil, Nat.sub_zero]
      rw [ext_all]
    · refine Vw.to [] _ _ (vU hU) ?_ ?_ (by simp [tauL])
      · refine vd (vd (vd (vx (vd (vd (trivial))))))
      · exact ⟨⟨by simp, rfl, cl3⟩, trivial⟩
    · intro z hJ
      refine st ?_
      obtain ⟨hJ1, hJ2, hJ3, hJ4, hJ5⟩ := hJ
      all_goals first
      | fail_if_success with_reducible refine atR 4 ?_
      | (
        refine rg 4 [] [some 11, some 12, some 13, some 14, some 15, some 16, some 17, some 18, some 19, some 20] 10 ?_
        all_goals iterate 5 refine qP ?_
        all_goals first | refine qU 15 ?_ | (refine qS 15 ?_ ?_ <;> intro hg4_4 <;> try (cases hg4_4; done))
        all_goals iterate 5 refine qP ?_
        all_goals refine qE ?_)
      all_goals first
      | fail_if_success with_reducible refine atC 20 ?_
      | (
        refine cn 20 ?_ ?_ <;> intro hc20 <;> try (cases hc20; done)
        all_goals refine st ?_)
      all_goals first
      | fail_if_success with_reducible refine atR 6 ?_
      | (
        refine rg 6 [] [some 23, some 24, some 25, some 26, some 27] 5 ?_
        all_goals iterate 2 refine qP ?_
        all_goals (
          refine qL_cons ?_
          intro R hR
          refine sm ?_
          refine ⟨⟨by omega, by omega⟩, ?_⟩
          intro x1 hx1
          all_goals (refine hR _ ?_; clear hR R))
        all_goals iterate 2 refine qP ?_
        all_goals refine qE ?_)
      all_goals first
      | fail_if_success with_reducible refine atC 27 ?_
      | (
        refine cn 27 ?_ ?_ <;> intro hc27 <;> try (cases hc27; done)
        all_goals refine st ?_)
      all_goals first
      | fail_if_success with_reducible refine atR 7 ?_
      | (
        refine rg 7 [5] [some 28, some 29, some 30, some 31, some 32, some 33, some 34, some 7] 8 ?_
        all_goals iterate 4 refine qP ?_
        all_goals (
          refine qL_cons ?_
          intro R hR
          refine sm ?_
          refine ⟨⟨by omega, by omega, by omega⟩, ?_⟩
          all_goals (refine hR _ ?_; clear hR R))
        all_goals refine qP ?_
        all_goals (
          refine qL_cons ?_
          intro R hR
          refine sm ?_
          refine ⟨by simp [sS], by first | omega | (simp; omega), ?_⟩
          all_goals (refine hR _ ?_; clear hR R))
        all_goals refine qP ?_
        all_goals refine qE ?_)
      all_goals first
      | fail_if_success with_reducible refine atR 8 ?_
      | (
        refine rg 8 [] [some 35, some 36, some 8] 3 ?_
        all_goals refine qP ?_
        all_goals (
          refine qL_cons ?_
          intro R hR
          refine sm ?_
          rw [wrap64 (by omega) (by omega)]
          all_goals (refine hR _ ?_; clear hR R))
        all_goals refine qP ?_
        all_goals refine qE ?_)
      all_goals first
      | fail_if_success with_reducible refine atR 5 ?_
      | (
        refine rg 5 [] [some 21, some 22, some 9] 3 ?_
        all_goals refine qP ?_
        all_goals (
          refine qL_cons ?_
          intro R hR
          refine sm ?_
          rw [wrap64 (by omega) (by omega)]
          all_goals (refine hR _ ?_; clear hR R))
        all_goals refine qP ?_
        all_goals refine qE ?_)
      all_goals first
      | fail_if_success with_reducible refine ⟨z, ?_, ?_, ?_⟩
      | (
          refine ⟨(z.1 + 1, z.2.1, z.2.2), ?_, ?_, ?_⟩
          · refine ⟨by simp only; omega, by simp only; omega, hJ3, fun j h1 h2 => ?_, hJ5⟩
            by_cases hji : j = z.1
            · subst hji
              intro hh
              rw [hx1] at hh
              cases hh
              simp at hc27
            · exact hJ4 j h1 (by simp only at h2; omega)
          · simp only; omega
          · refine Vw.to [] _ _ (vU hU) ?_ ?_ (by simp [tauL])
            · exact vd (vd (vd (vx (vw_d (by first | exact cl2 | (refine sm2 ?_; congr 1)) (vw_d (by first | exact cl2 | (refine sm2 ?_; congr 1)) trivial)))))
            · exact ⟨⟨by simp, rfl, cl3⟩, trivial⟩)
      | (
          refine ⟨(z.1 + 1, z.1 + 1, z.2.2 ++ [s.extract z.2.1 z.1]), ?_, ?_, ?_⟩
          · have hcc : x1 = c := by
              have := hc27
              exact UInt8.toNat_inj.1 (by omega)
            subst hcc
            refine ⟨by simp only; omega, by simp only; omega, by simp; omega, fun j h1 h2 => by simp only at h1 h2; omega, ?_⟩
            rw [hJ5]
            have hk1 : k - z.2.2.length = (k - (z.2.2.length + 1)) + 1 := by omega
            rw [hk1, cut_hit hJ1 (by omega) hx1 hJ4]
            simp
          · simp only; omega
          · refine Vw.to [(2, 27)] _ _ (fun n hn => absurd (hU n hn) (by omega)) ?_ ?_ (by simp [tauL])
            · refine vd (vd (vd (vw_x ?_ rfl (vw_d (by first | exact cl2 | (refine sm2 ?_; congr 1)) (vw_d (by first | exact cl2 | (refine sm2 ?_; congr 1)) trivial)))))
              refine sm2 ?_
              simp
            · refine ⟨⟨by simp, rfl, ?_⟩, trivial⟩
              refine sm3 ?_
              simp [sS])
      all_goals first
      | fail_if_success with_reducible refine atR 9 ?_
      | (
        refine rg 9 [4] [some 37, some 38, some 39, some 40, some 41, some 42, some 6] 7 ?_
        all_goals iterate 3 refine qP ?_
        all_goals (
          refine qL_cons ?_
          intro R hR
          refine sm ?_
          refine ⟨⟨by omega, by omega⟩, ?_⟩
          all_goals (refine hR _ ?_; clear hR R))
        all_goals refine qP ?_
        all_goals (
          refine qL_cons ?_
          intro R hR
          refine sm ?_
          refine ⟨by simp [sS], by first | omega | (simp; omega), ?_⟩
          all_goals (refine hR _ ?_; clear hR R))
        all_goals refine qP ?_
        all_goals refine qE ?_)
      all_goals (
        have hR : cutN c k s = z.2.2 ++ [s.extract z.2.1 s.size] := by
          rw [hJ5]
          congr 1
          by_cases hzi : z.1 < s.size
          · have : k - z.2.2.length = 0 := by omega
            rw [this, cut_zero]
          · exact cut_miss (fun j h1 h2 => hJ4 j h1 (by omega))
        rw [hR]
        refine ret_vec (ty := 9) 21 hU ?_ ?_
        · refine sm ?_
          simp
        · refine sm ?_
          simp [sS]))

end
end Go.Proofs.YtkbnkcdaiahoeaaDoor
