/- strings.Split and strings.HasPrefix; paths, of the program; a text cut at a byte, of the reference; the two ways to see a path are one; owners, of both; what is to be done is ok: the parts; it is ok, kind 1; kind 2. No condition. -/
import Derived.Test.YtkbnkcdaiahoeaaDoorE16
import Derived.Test.YtkbnkcdaiahoeaaDoorE28
import Derived.Test.YtkbnkcdaiahoeaaDoorAxJ
namespace Go.Proofs.YtkbnkcdaiahoeaaDoor
open Go Go.RowKit Go.Shelf
set_option maxRecDepth 100000
set_option maxHeartbeats 4000000
set_option linter.unusedSimpArgs false
set_option linter.unusedVariables false
def lay221_ren : Ren := { f := fun x => match x with | 221 => 69 | 268 => 86 | 138 => 87 | 143 => 77 | 195 => 98 | 197 => 99 | 218 => 100 | 219 => 89 | 260 => 114 | 217 => 102 | 225 => 103 | 224 => 104 | 267 => 105 | 266 => 115 | 314 => 116 | n => n, t := fun x => match x with | 9 => 9 | 3 => 3 | 31 => 39 | 4 => 4 | 0 => 0 | 105 => 101 | 21 => 21 | 5 => 5 | 46 => 104 | 119 => 130 | 139 => 133 | 138 => 132 | 146 => 118 | 51 => 117 | n => n, g := fun x => match x with | 1 => 1 | 3 => 5 | 4 => 6 | n => n }
theorem lay221 : Lays.n221 Tryd.prog lay221_ren :=
  { mixed := Eq.refl true, f138 := Eq.trans Tryd.func87 (congrArg some (by kernel_rfl)), f143 := Eq.trans Tryd.func77 (congrArg some (by kernel_rfl)), f195 := Eq.trans Tryd.func98 (congrArg some (by kernel_rfl)), f197 := Eq.trans Tryd.func99 (congrArg some (by kernel_rfl)), f217 := Eq.trans Tryd.func102 (congrArg some (by kernel_rfl)), f218 := Eq.trans Tryd.func100 (congrArg some (by kernel_rfl)), f219 := Eq.trans Tryd.func89 (congrArg some (by kernel_rfl)), f221 := Eq.trans Tryd.func69 (congrArg some (by kernel_rfl)), f224 := Eq.trans Tryd.func104 (congrArg some (by kernel_rfl)), f225 := Eq.trans Tryd.func103 (congrArg some (by kernel_rfl)), f260 := Eq.trans Tryd.func114 (congrArg some (by kernel_rfl)), f266 := Eq.trans Tryd.func115 (congrArg some (by kernel_rfl)), f267 := Eq.trans Tryd.func105 (congrArg some (by kernel_rfl)), f268 := Eq.trans Tryd.func86 (congrArg some (by kernel_rfl)), f314 := Eq.trans Tryd.func116 (congrArg some (by kernel_rfl)), t0 := Tryd.underlying0, a0 := Tryd.isAgg0, z0 := Tryd.sizeOf0, v0 := Tryd.zeroValue0, t3 := Tryd.underlying3, a3 := Tryd.isAgg3, z3 := Tryd.sizeOf3, v3 := Tryd.zeroValue3, t4 := Tryd.underlying4, a4 := Tryd.isAgg4, z4 := Tryd.sizeOf4, v4 := Tryd.zeroValue4, t5 := Tryd.underlying5, a5 := Tryd.isAgg5, z5 := Tryd.sizeOf5, v5 := Tryd.zeroValue5, t9 := Tryd.underlying9, a9 := Tryd.isAgg9, z9 := Tryd.sizeOf9, v9 := Tryd.zeroValue9, t21 := Tryd.underlying21, a21 := Tryd.isAgg21, z21 := Tryd.sizeOf21, v21 := Tryd.zeroValue21, t31 := Tryd.underlying39, a31 := Tryd.isAgg39, z31 := Tryd.sizeOf39, v31 := Tryd.zeroValue39, t46 := Tryd.underlying104, a46 := Tryd.isAgg104, z46 := Tryd.sizeOf104, v46 := Tryd.zeroValue104, t51 := Tryd.underlying117, a51 := Tryd.isAgg117, z51 := Tryd.sizeOf117, v51 := Tryd.zeroValue117, t105 := Tryd.underlying101, a105 := Tryd.isAgg101, z105 := Tryd.sizeOf101, v105 := Tryd.zeroValue101, t119 := Tryd.underlying130, a119 := Tryd.isAgg130, z119 := Tryd.sizeOf130, t138 := Tryd.underlying132, a138 := Tryd.isAgg132, z138 := Tryd.sizeOf132, v138 := Tryd.zeroValue132, t139 := Tryd.underlying133, a139 := Tryd.isAgg133, z139 := Tryd.sizeOf133, v139 := Tryd.zeroValue133, t146 := Tryd.underlying118, a146 := Tryd.isAgg118, z146 := Tryd.sizeOf118, v146 := Tryd.zeroValue118, g1 := by kernel_rfl, g3 := by kernel_rfl, g4 := by kernel_rfl }
def lay144_ren : Ren := { f := fun x => match x with | 144 => 52 | 143 => 77 | 219 => 89 | 217 => 102 | 225 => 103 | 224 => 104 | 267 => 105 | 266 => 115 | 314 => 116 | n => n, t := fun x => match x with | 9 => 9 | 4 => 4 | 3 => 3 | 5 => 5 | 46 => 104 | 146 => 118 | 51 => 117 | n => n, g := fun x => match x with | 1 => 1 | n => n }
theorem lay144 : Lays.n144 Tryd.prog lay144_ren :=
  { mixed := Eq.refl true, f143 := Eq.trans Tryd.func77 (congrArg some (by kernel_rfl)), f144 := Eq.trans Tryd.func52 (congrArg some (by kernel_rfl)), f217 := Eq.trans Tryd.func102 (congrArg some (by kernel_rfl)), f219 := Eq.trans Tryd.func89 (congrArg some (by kernel_rfl)), f224 := Eq.trans Tryd.func104 (congrArg some (by kernel_rfl)), f225 := Eq.trans Tryd.func103 (congrArg some (by kernel_rfl)), f266 := Eq.trans Tryd.func115 (congrArg some (by kernel_rfl)), f267 := Eq.trans Tryd.func105 (congrArg some (by kernel_rfl)), f314 := Eq.trans Tryd.func116 (congrArg some (by kernel_rfl)), t3 := Tryd.underlying3, a3 := Tryd.isAgg3, z3 := Tryd.sizeOf3, v3 := Tryd.zeroValue3, t4 := Tryd.underlying4, a4 := Tryd.isAgg4, z4 := Tryd.sizeOf4, v4 := Tryd.zeroValue4, t5 := Tryd.underlying5, a5 := Tryd.isAgg5, z5 := Tryd.sizeOf5, v5 := Tryd.zeroValue5, t9 := Tryd.underlying9, a9 := Tryd.isAgg9, z9 := Tryd.sizeOf9, v9 := Tryd.zeroValue9, t46 := Tryd.underlying104, a46 := Tryd.isAgg104, z46 := Tryd.sizeOf104, v46 := Tryd.zeroValue104, t51 := Tryd.underlying117, a51 := Tryd.isAgg117, z51 := Tryd.sizeOf117, v51 := Tryd.zeroValue117, t146 := Tryd.underlying118, a146 := Tryd.isAgg118, z146 := Tryd.sizeOf118, v146 := Tryd.zeroValue118, g1 := by kernel_rfl }
/-- A text cut at each byte c. -/
def pcs (c : UInt8) (s : ByteArray) : List ByteArray := Lib.splitB ⟨#[c]⟩ 0 (Lib.countB s ⟨#[c]⟩) s
theorem genSplit_s (s : ByteArray) (c : UInt8) (hs : s.size ≤ 1000000) : FunR Tryd.prog 69 [.d (.str s), .d (.str ⟨#[c]⟩), .d (.int .i64 0), .d (.int .i64 (-1))] (fun m => .vec m 1 0 (pcs c s).length) (.vec 9 1 ((pcs c s).map sS)) := by
  have hle := Lib.countB_le ⟨#[c]⟩ (Nat.le_refl 1) s.size s (Nat.le_refl _)
  exact genSplit_spec (lay221) (by kernel_rfl) (by kernel_rfl) s c (-1) (Lib.countB s ⟨#[c]⟩ + 1) (by omega) (by decide) (by decide) (by rw [if_pos (by decide)]; omega)
theorem pcs_len (c : UInt8) (s : ByteArray) : (pcs c s).length ≤ s.size + 1 := by
  have hle := Lib.countB_le ⟨#[c]⟩ (Nat.le_refl 1) s.size s (Nat.le_refl _)
  have := Lib.splitB_all ⟨#[c]⟩ (Nat.le_refl 1) 0 _ s rfl
  unfold pcs
  omega
/-- A path: names with strokes between. -/
def pthB (s : ByteArray) : Bool := decide (((pcs 47 s).length : Int) ≤ 3) && (pcs 47 s).all nmB
theorem any_notN (ss : List ByteArray) : (!ss.any fun s => !nmB s) = ss.all nmB := by
  induction ss with
  | nil => rfl
  | cons s r ih => simp [List.any_cons, List.all_cons, Bool.not_or, ih]
/-- p is ahead of s. -/
def hpB (s p : ByteArray) : Bool := decide ((p.size : Int) ≤ (s.size : Int)) && decide (s.extract 0 p.size = p)
def pinB (dir path : ByteArray) : Bool := pthB dir && pthB path && hpB path (dir ++ ⟨#[47]⟩)
def atB (dir path : ByteArray) : Bool := decide (dir = path) || pinB dir path
attribute [local go_sem] List.size_toArray Int.toNat_zero Nat.sub_zero size_mk top_val eq_self datL X.dat u8min u8max i64min i64max stepT gdO aop ev lit litOk putF fzX_false putO upd app List.contains_nil List.elem_nil aBin aInt aStr aBool aLen lenTy aBuiltin aLoad aTake aTakeX aStore splice aSlice aBd look_cons look_nil lookC_cons lookC_nil by_s by_C start_s start_C X.cells X.cell List.all_cons List.all_nil Bool.and_self Bool.not_true Bool.not_false false_implies true_implies forall_const and_true true_and and_self implies_true not_false_eq_true Nat.zero_add Nat.add_zero List.getD_cons_zero List.getD_cons_succ List.map_cons List.map_nil Option.bind_some Option.map_some Option.map_none List.getElem?_cons_zero List.getElem?_cons_succ List.length_cons List.length_nil List.drop_zero List.drop_succ_cons List.take_succ_cons List.take_zero List.cons_append List.nil_append List.append_nil D.of List.length_map all_get_map Option.isSome_some and_false false_and Nat.lt_add_one Nat.zero_lt_succ decide_true decide_false aPart aSl2 Nat.lt_irrefl fzX litEs List.contains_cons List.elem_cons Bool.true_or Bool.or_true Bool.false_or Bool.or_false beq_self_eq_true
section
attribute [local go_sem] tsz9 tsz39 tel39 toNat_cast und9 tz9l iz9 aDst aSrc sS
theorem Split_spec (s : ByteArray) (c : UInt8) (hs : s.size ≤ 1000000) : FunR Tryd.prog 42 [.d (.str s), .d (.str ⟨#[c]⟩)] (fun m => .vec m 1 0 (pcs c s).length) (.vec 9 1 ((pcs c s).map sS)) := by
  refine FunR.of ?_ rfl
  refine Spec.of (fn := Tryd.f42) Tryd.func42 rfl (by kernel_rfl) (rs := [.tmp 4]) rfl 1 (by simp [Tryd.f42]) rfl (by simp) ?_
  intro hreal
  rintro ⟨P, T, L0, w0, ι0, C0, U0⟩ hP hT hU
  subst hP hT
  refine st ?_
  all_goals first
  | fail_if_success with_reducible refine atR 0 ?_
  | (
    refine rg 0 [] [some 4] 1 ?_
    all_goals refine qP ?_
    all_goals refine qE ?_)
  all_goals first
  | fail_if_success with_reducible refine atR 1 ?_
  | (
    refine rg 1 [] [some 5, some 6, some 7, some 4] 4 ?_
    all_goals iterate 2 refine qP ?_
    all_goals (
      refine qL_cons ?_
      intro R hR
      refine sm ?_
      refine call_row (genSplit_s s c hs) [] ?_ (.inl rfl) ?_
      · exact ⟨.inl rfl, ⟨.inl rfl, ⟨.inl rfl, ⟨.inl rfl, trivial⟩⟩⟩⟩
      refine sm ?_
      all_goals (refine hR _ ?_; clear hR R))
    all_goals refine qP ?_
    all_goals refine qE ?_)
  all_goals exact ret_vec 4 hU cl cl

end
section
attribute [local go_sem] tsz9 tsz39 tel39 toNat_cast und9 tz9l iz9 aDst aSrc sS
theorem PathOk1_spec (s : ByteArray) : Fun Tryd.prog 44 [.d (.str s)] (.d (.bool (!nmB s))) := by
  refine Fun.of ?_ rfl rfl
  refine Spec.of (fn := Tryd.f44) Tryd.func44 rfl (by kernel_rfl) (rs := [.tmp 2]) rfl 1 (by simp [Tryd.f44]) rfl (by simp) ?_
  intro hreal
  rintro ⟨P, T, L0, w0, ι0, C0, U0⟩ hP hT hU
  subst hP hT
  refine st ?_
  all_goals first
  | fail_if_success with_reducible refine atR 0 ?_
  | (
    refine rg 0 [] [some 2] 1 ?_
    all_goals refine qP ?_
    all_goals refine qE ?_)
  all_goals first
  | fail_if_success with_reducible refine atR 1 ?_
  | (
    refine rg 1 [] [some 3, some 4, some 5, some 2] 4 ?_
    all_goals refine qP ?_
    all_goals (
      refine qL_cons ?_
      intro R hR
      refine sm ?_
      refine call_fun (nameOk_spec s) [] ?_ (.inl rfl) ?_
      · exact ⟨.inl rfl, trivial⟩
      refine sm ?_
      all_goals (refine hR _ ?_; clear hR R))
    all_goals iterate 2 refine qP ?_
    all_goals refine qE ?_)
  all_goals first
  | fail_if_success with_reducible refine ret_fun (t := 2) ?_ ?_
  | (
    refine ret_fun (t := 2) ?_ (fun _ => rfl)
    first
    | exact cl
    | (
      try refine sm ?_
      all_goals (
       rfl)))

end
section
attribute [local go_sem] tsz9 tsz39 tel39 toNat_cast und9 tz9l iz9 aDst aSrc sS
theorem PathOk_spec (s : ByteArray) (hs : s.size ≤ 1000000) : Fun Tryd.prog 17 [.d (.str s)] (.d (.bool (pthB s))) := by
  refine Fun.of ?_ rfl rfl
  refine Spec.of (fn := Tryd.f17) Tryd.func17 rfl (by kernel_rfl) (rs := [.tmp 2]) rfl 1 (by simp [Tryd.f17]) rfl (by simp) ?_
  intro hreal
  rintro ⟨P, T, L0, w0, ι0, C0, U0⟩ hP hT hU
  subst hP hT
  refine st ?_
  have hpl := pcs_len 47 s
  all_goals first
  | fail_if_success with_reducible refine atR 0 ?_
  | (
    refine rg 0 [] [some 2] 1 ?_
    all_goals refine qP ?_
    all_goals refine qE ?_)
  all_goals first
  | fail_if_success with_reducible refine atR 1 ?_
  | (
    refine rg 1 [] [some 4, some 5, some 3] 3 ?_
    all_goals refine qP ?_
    all_goals (
      refine qL_cons ?_
      intro R hR
      refine sm ?_
      refine call_row (Split_spec s 47 hs) [] ?_ (.inl rfl) ?_
      · exact ⟨.inl rfl, ⟨.inl rfl, trivial⟩⟩
      refine sm ?_
      all_goals (refine hR _ ?_; clear hR R))
    all_goals refine qP ?_
    all_goals refine qE ?_)
  all_goals first
  | fail_if_success with_reducible refine atR 2 ?_
  | (
    refine rg 2 [] [some 6, some 7, some 8, some 9, some 10, some 11, some 12, some 13, some 2] 9 ?_
    all_goals iterate 4 refine qP ?_
    all_goals first | refine qU 9 ?_ | (refine qS 9 ?_ ?_ <;> intro hg2_3 <;> try (cases hg2_3; done))
    all_goals refine qP ?_
    all_goals first
    | (
      refine qL_cons ?_
      intro R hR
      refine sm ?_
      refine call_fun (ContainsFuncS_spec (pcs 47 s) 44 [] (fun s => !nmB s) (fun _ => rfl) (fun _ _ => trivial) PathOk1_spec) [3] ?_ (.inr rfl) ?_
      · exact ⟨.inr (lend_of (by simp) (by simp) cl (by simp)), ⟨.inl rfl, trivial⟩⟩
      refine sm ?_
      refine hR _ ?_
      clear hR R)
    | refine qP ?_
    all_goals iterate 3 refine qP ?_
    all_goals refine qE ?_)
  all_goals first
  | fail_if_success with_reducible refine ret_fun (t := 2) ?_ ?_
  | (
    refine ret_fun (t := 2) ?_ (fun _ => rfl)
    first
    | exact cl
    | (
      try refine sm ?_
      all_goals (
       (congr 2; simp only [any_notN, pthB]; simp_all; try (intro h; omega)))))

end
section
attribute [local go_sem] tsz9 tsz39 tel39 toNat_cast und9 tz9l iz9 aDst aSrc sS
theorem HasPrefix0_spec (s p : ByteArray) : Fun Tryd.prog 71 [.d (.str s), .d (.str p)] (.d (.bool (hpB s p))) := by
  refine Fun.of ?_ rfl rfl
  refine Spec.of (fn := Tryd.f71) Tryd.func71 rfl (by kernel_rfl) (rs := [.tmp 4]) rfl 1 (by simp [Tryd.f71]) rfl (by simp) ?_
  intro hreal
  rintro ⟨P, T, L0, w0, ι0, C0, U0⟩ hP hT hU
  subst hP hT
  refine st ?_
  all_goals first
  | fail_if_success with_reducible refine atR 0 ?_
  | (
    refine rg 0 [] [some 4] 1 ?_
    all_goals refine qP ?_
    all_goals refine qE ?_)
  all_goals first
  | fail_if_success with_reducible refine atR 1 ?_
  | (
    refine rg 1 [] [some 5, some 6, some 7, some 8, some 9, some 10, some 11, some 12, some 13, some 14, some 15, some 16, some 17, some 4] 14 ?_
    all_goals iterate 6 refine qP ?_
    all_goals first | refine qU 10 ?_ | (refine qS 10 ?_ ?_ <;> intro hg1_5 <;> try (cases hg1_5; done))
    all_goals iterate 3 refine qP ?_
    all_goals first
    | (
      refine qL_cons ?_
      intro R hR
      refine sm ?_
      refine ⟨⟨by omega, by omega⟩, ?_⟩
      refine hR _ ?_
      clear hR R)
    | refine qP ?_
    all_goals iterate 4 refine qP ?_
    all_goals refine qE ?_)
  all_goals first
  | fail_if_success with_reducible refine ret_fun (t := 4) ?_ ?_
  | (
    refine ret_fun (t := 4) ?_ (fun _ => rfl)
    first
    | exact cl
    | (
      try refine sm ?_
      all_goals (
       (congr 2; simp only [hpB]; simp_all; try (intro h; omega)))))

end
section
attribute [local go_sem] tsz9 tsz39 tel39 toNat_cast und9 tz9l iz9 aDst aSrc sS
theorem HasPrefix_spec (s p : ByteArray) : Fun Tryd.prog 45 [.d (.str s), .d (.str p)] (.d (.bool (hpB s p))) := by
  refine Fun.of ?_ rfl rfl
  refine Spec.of (fn := Tryd.f45) Tryd.func45 rfl (by kernel_rfl) (rs := [.tmp 4]) rfl 1 (by simp [Tryd.f45]) rfl (by simp) ?_
  intro hreal
  rintro ⟨P, T, L0, w0, ι0, C0, U0⟩ hP hT hU
  subst hP hT
  refine st ?_
  all_goals first
  | fail_if_success with_reducible refine atR 0 ?_
  | (
    refine rg 0 [] [some 4] 1 ?_
    all_goals refine qP ?_
    all_goals refine qE ?_)
  all_goals first
  | fail_if_success with_reducible refine atR 1 ?_
  | (
    refine rg 1 [] [some 5, some 6, some 7, some 4] 4 ?_
    all_goals iterate 2 refine qP ?_
    all_goals (
      refine qL_cons ?_
      intro R hR
      refine sm ?_
      refine call_fun (HasPrefix0_spec s p) [] ?_ (.inl rfl) ?_
      · exact ⟨.inl rfl, ⟨.inl rfl, trivial⟩⟩
      refine sm ?_
      all_goals (refine hR _ ?_; clear hR R))
    all_goals refine qP ?_
    all_goals refine qE ?_)
  all_goals first
  | fail_if_success with_reducible refine ret_fun (t := 4) ?_ ?_
  | (
    refine ret_fun (t := 4) ?_ (fun _ => rfl)
    first
    | exact cl
    | (
      try refine sm ?_
      all_goals (
       rfl)))

end
section
attribute [local go_sem] tsz9 tsz39 tel39 toNat_cast und9 tz9l iz9 aDst aSrc sS
theorem PathIn_spec (dir path : ByteArray) (hd : dir.size ≤ 1000000) (hp : path.size ≤ 1000000) : Fun Tryd.prog 18 [.d (.str dir), .d (.str path)] (.d (.bool (pinB dir path))) := by
  refine Fun.of ?_ rfl rfl
  refine Spec.of (fn := Tryd.f18) Tryd.func18 rfl (by kernel_rfl) (rs := [.tmp 4]) rfl 1 (by simp [Tryd.f18]) rfl (by simp) ?_
  intro hreal
  rintro ⟨P, T, L0, w0, ι0, C0, U0⟩ hP hT hU
  subst hP hT
  refine st ?_
  all_goals first
  | fail_if_success with_reducible refine atR 0 ?_
  | (
    refine rg 0 [] [some 4] 1 ?_
    all_goals refine qP ?_
    all_goals refine qE ?_)
  all_goals first
  | fail_if_success with_reducible refine atR 1 ?_
  | (
    refine rg 1 [] [some 5, some 6, some 7, some 8, some 9, some 10, some 11, some 12, some 13, some 14, some 15, some 16, some 4] 13 ?_
    all_goals refine qP ?_
    all_goals (
      refine qL_cons ?_
      intro R hR
      refine sm ?_
      refine call_fun (PathOk_spec dir hd) [] ?_ (.inl rfl) ?_
      · exact ⟨.inl rfl, trivial⟩
      refine sm ?_
      all_goals (refine hR _ ?_; clear hR R))
    all_goals refine qP ?_
    all_goals first | refine qU 7 ?_ | (refine qS 7 ?_ ?_ <;> intro hg1_2 <;> try (cases hg1_2; done))
    all_goals refine qP ?_
    all_goals first
    | (
      refine qL_cons ?_
      intro R hR
      refine sm ?_
      refine call_fun (PathOk_spec path hp) [] ?_ (.inl rfl) ?_
      · exact ⟨.inl rfl, trivial⟩
      refine sm ?_
      refine hR _ ?_
      clear hR R)
    | refine qP ?_
    all_goals iterate 2 refine qP ?_
    all_goals first | refine qU 11 ?_ | (refine qS 11 ?_ ?_ <;> intro hg1_6 <;> try (cases hg1_6; done))
    all_goals iterate 2 refine qP ?_
    all_goals first
    | (
      refine qL_cons ?_
      intro R hR
      refine sm ?_
      refine ⟨by omega, ?_⟩
      refine hR _ ?_
      clear hR R)
    | refine qP ?_
    all_goals first
    | (
      refine qL_cons ?_
      intro R hR
      refine sm ?_
      refine call_fun (HasPrefix_spec path (dir ++ ⟨#[47]⟩)) [] ?_ (.inl rfl) ?_
      · exact ⟨.inl rfl, ⟨.inl rfl, trivial⟩⟩
      refine sm ?_
      refine hR _ ?_
      clear hR R)
    | refine qP ?_
    all_goals iterate 2 refine qP ?_
    all_goals refine qE ?_)
  all_goals first
  | fail_if_success with_reducible refine ret_fun (t := 4) ?_ ?_
  | (
    refine ret_fun (t := 4) ?_ (fun _ => rfl)
    first
    | exact cl
    | (
      try refine sm ?_
      all_goals (
       (congr 2; simp only [pinB]; simp_all; done))))

end
section
attribute [local go_sem] tsz9 tsz39 tel39 toNat_cast und9 tz9l iz9 aDst aSrc sS
theorem isAt_spec (dir path : ByteArray) (hd : dir.size ≤ 1000000) (hp : path.size ≤ 1000000) : Fun Tryd.prog 39 [.d (.str dir), .d (.str path)] (.d (.bool (atB dir path))) := by
  refine Fun.of ?_ rfl rfl
  refine Spec.of (fn := Tryd.f39) Tryd.func39 rfl (by kernel_rfl) (rs := [.tmp 4]) rfl 1 (by simp [Tryd.f39]) rfl (by simp) ?_
  intro hreal
  rintro ⟨P, T, L0, w0, ι0, C0, U0⟩ hP hT hU
  subst hP hT
  refine st ?_
  all_goals first
  | fail_if_success with_reducible refine atR 0 ?_
  | (
    refine rg 0 [] [some 4] 1 ?_
    all_goals refine qP ?_
    all_goals refine qE ?_)
  all_goals first
  | fail_if_success with_reducible refine atR 1 ?_
  | (
    refine rg 1 [] [some 5, some 6, some 7, some 8, some 9, some 10, some 11, some 12, some 4] 9 ?_
    all_goals iterate 4 refine qP ?_
    all_goals first | refine qU 8 ?_ | (refine qS 8 ?_ ?_ <;> intro hg1_3 <;> try (cases hg1_3; done))
    all_goals iterate 2 refine qP ?_
    all_goals first
    | (
      refine qL_cons ?_
      intro R hR
      refine sm ?_
      refine call_fun (PathIn_spec dir path hd hp) [] ?_ (.inl rfl) ?_
      · exact ⟨.inl rfl, ⟨.inl rfl, trivial⟩⟩
      refine sm ?_
      refine hR _ ?_
      clear hR R)
    | refine qP ?_
    all_goals iterate 2 refine qP ?_
    all_goals refine qE ?_)
  all_goals first
  | fail_if_success with_reducible refine ret_fun (t := 4) ?_ ?_
  | (
    refine ret_fun (t := 4) ?_ (fun _ => rfl)
    first
    | exact cl
    | (
      try refine sm ?_
      all_goals (
       (congr 2; simp only [atB]; simp_all; done))))

end
end Go.Proofs.YtkbnkcdaiahoeaaDoor
namespace Go.Proofs.YtkbnkcdaiahoeaaDoor
open Go Go.RowKit
set_option maxRecDepth 100000
set_option maxHeartbeats 4000000
set_option linter.unusedSimpArgs false
set_option linter.unusedVariables false
theorem indexByte_at (c : UInt8) : ∀ (l : List UInt8) (i : Nat), l[i]? = some c → (∀ k : Nat, k < i → l[k]? ≠ some c) → Lib.indexByte l c = i
  | [], i, h, _ => by simp at h
  | b :: l, 0, h, _ => by
    simp at h
    simp [Lib.indexByte, h]
  | b :: l, i + 1, h, hn => by
    have hb : b ≠ c := by
      intro e
      exact hn 0 (by omega) (by simp [e])
    have ih := indexByte_at c l i (by simpa using h) (fun k hk => by
      have := hn (k + 1) (by omega)
      simpa using this)
    simp only [Lib.indexByte, beq_iff_eq, if_neg hb, ih]
    rw [if_neg (by omega)]
    omega
theorem indexByte_none (c : UInt8) : ∀ (l : List UInt8), (∀ k : Nat, l[k]? ≠ some c) → Lib.indexByte l c = -1
  | [], _ => rfl
  | b :: l, hn => by
    have hb : b ≠ c := by
      intro e
      exact hn 0 (by simp [e])
    have ih := indexByte_none c l (fun k => by
      have := hn (k + 1)
      simpa using this)
    simp only [Lib.indexByte, beq_iff_eq, if_neg hb, ih, if_true]
/-- A text cut at a byte, k times at most. -/
def cutN (c : UInt8) (k : Nat) (s : ByteArray) : List ByteArray := Lib.splitB ⟨#[c]⟩ 0 k s
theorem ba_ext {a b : ByteArray} (h : a.data.toList = b.data.toList) : a = b := by
  cases a with
  | mk a => cases b with
    | mk b => simp only at h; rw [Array.toList_inj] at h; rw [h]
theorem ex_data (s : ByteArray) (a b : Nat) : (s.extract a b).data.toList = (s.data.toList.take b).drop a := by
  rw [Lib.extract_data, List.drop_take]
theorem cut_hit {c : UInt8} {k a i : Nat} {s : ByteArray} (hai : a ≤ i) (hi : i < s.size) (h : s.data[i]? = some c) (hn : ∀ j, a ≤ j → j < i → s.data[j]? ≠ some c) :
    cutN c (k + 1) (s.extract a s.size) = s.extract a i :: cutN c k (s.extract (i + 1) s.size) := by
  have hl : s.data.toList.length = s.size := (Lib.size_eq s).symm
  have hx : Lib.indexB (s.extract a s.size) ⟨#[c]⟩ = ((i - a : Nat) : Int) := by
    show Lib.index _ [c] = _
    rw [Lib.index_one, ex_data, List.take_of_length_le (by omega)]
    refine indexByte_at c _ _ ?_ (fun j hj => ?_)
    · rw [List.getElem?_drop, show a + (i - a) = i by omega]
      simpa using h
    · rw [List.getElem?_drop]
      have := hn (a + j) (by omega) (by omega)
      simpa using this
  unfold cutN
  rw [Lib.splitB_hit _ 0 k _ _ hx]
  have e1 : (s.extract a s.size).extract 0 (i - a + 0) = s.extract a i := ba_ext (by
    rw [ex_data, ex_data, ex_data, List.take_of_length_le (show s.data.toList.length ≤ s.size by omega), List.drop_zero, Nat.add_zero, List.drop_take])
  have e2 : (s.extract a s.size).extract (i - a + 1) (s.extract a s.size).size = s.extract (i + 1) s.size := ba_ext (by
    rw [ex_data, ex_data, ex_data, List.take_of_length_le (show s.data.toList.length ≤ s.size by omega), List.take_of_length_le (by first | (simp [ByteArray.size_extract]; done) | (simp [ByteArray.size_extract]; omega)), List.drop_drop] <;> (congr 1; omega))
  have e3 : (⟨#[c]⟩ : ByteArray).size = 1 := rfl
  rw [e1, e3, e2]
theorem cut_miss {c : UInt8} {k a : Nat} {s : ByteArray} (hn : ∀ j, a ≤ j → j < s.size → s.data[j]? ≠ some c) : cutN c k (s.extract a s.size) = [s.extract a s.size] := by
  have hl : s.data.toList.length = s.size := (Lib.size_eq s).symm
  refine Lib.splitB_miss _ 0 _ _ ?_
  show Lib.index _ [c] = _
  rw [Lib.index_one, ex_data, List.take_of_length_le (by omega)]
  refine indexByte_none c _ (fun j => ?_)
  rw [List.getElem?_drop]
  by_cases hj : a + j < s.size
  · have := hn (a + j) (by omega) hj
    simpa using this
  · rw [List.getElem?_eq_none (by omega)]
    simp
theorem cut_zero {c : UInt8} {s : ByteArray} : cutN c 0 s = [s] := rfl
theorem ext_all (s : ByteArray) : s.extract 0 s.size = s := ba_ext (by
  have hl : s.data.toList.length = s.size := (Lib.size_eq s).symm
  rw [ex_data, List.take_of_length_le (by omega), List.drop_zero])
theorem cut_one (c : UInt8) (k : Nat) (s : ByteArray) : (cutN c k s).length ≤ k + 1 := Lib.splitB_length_le _ _ _ _
/-- Cut at most three times, or as often as there are strokes: it is a path, or it is none. -/
theorem pth_cut (s : ByteArray) : (decide (((cutN 47 3 s).length : Int) ≤ 3) && (cutN 47 3 s).all nmB) = pthB s := by
  have h1 : (1 : Nat) ≤ (⟨#[47]⟩ : ByteArray).size := Nat.le_refl 1
  have hall := Lib.splitB_all ⟨#[47]⟩ h1 0 _ s rfl
  unfold pthB pcs cutN
  by_cases hc : Lib.countB s ⟨#[47]⟩ ≤ 2
  · rw [splitB_more ⟨#[47]⟩ h1 _ s rfl 3 (by omega)]
  · rw [splitB_len ⟨#[47]⟩ h1 3 s (by omega), hall, decide_eq_false (by omega), decide_eq_false (by omega), Bool.false_and, Bool.false_and]
/-- path is below dir. -/
def inB (dir path : ByteArray) : Bool := decide ((dir.size : Int) < (path.size : Int)) && decide (path.extract 0 dir.size = dir) && decide (path.data[dir.size]? = some 47)
theorem hp_in (dir path : ByteArray) : hpB path (dir ++ ⟨#[47]⟩) = inB dir path := by
  have hs : (dir ++ ⟨#[47]⟩ : ByteArray).size = dir.size + 1 := by rw [ByteArray.size_append]; rfl
  have hl : path.data.toList.length = path.size := (Lib.size_eq path).symm
  have hd : dir.data.toList.length = dir.size := (Lib.size_eq dir).symm
  unfold hpB inB
  rw [hs]
  by_cases hlt : dir.size < path.size
  · rw [decide_eq_true (show (((dir.size + 1 : Nat) : Int)) ≤ (path.size : Int) by omega), decide_eq_true (show (dir.size : Int) < (path.size : Int) by omega), Bool.true_and, Bool.true_and, ← Bool.decide_and]
    congr 1
    refine propext ⟨fun h => ?_, fun ⟨h1, h2⟩ => ?_⟩
    · have h' := congrArg (fun b => b.data.toList) h
      simp only [ex_data, List.drop_zero, ByteArray.data_append, Array.toList_append] at h'
      constructor
      · refine ba_ext ?_
        rw [ex_data, List.drop_zero]
        have := congrArg (List.take dir.size) h'
        rw [List.take_take, Nat.min_eq_left (by omega), List.take_left' hd] at this
        exact this
      · have := congrArg (fun l => l[dir.size]?) h'
        rw [List.getElem?_take_of_lt (by omega), List.getElem?_append_right (by omega), hd, Nat.sub_self] at this
        simpa using this
    · refine ba_ext ?_
      have h1' := congrArg (fun b => b.data.toList) h1
      simp only [ex_data, List.drop_zero] at h1'
      simp only [ex_data, List.drop_zero, ByteArray.data_append, Array.toList_append]
      rw [List.take_add_one, h1']
      have : path.data.toList[dir.size]? = some 47 := by simpa using h2
      rw [this]
      rfl
  · rw [decide_eq_false (show ¬ (((dir.size + 1 : Nat) : Int)) ≤ (path.size : Int) by omega), decide_eq_false (show ¬ (dir.size : Int) < (path.size : Int) by omega), Bool.false_and, Bool.false_and, Bool.false_and]
attribute [local go_sem] List.size_toArray Int.toNat_zero Nat.sub_zero size_mk top_val eq_self datL X.dat u8min u8max i64min i64max stepT gdO aop ev lit litOk putF fzX_false putO upd app List.contains_nil List.elem_nil aBin aInt aStr aBool aLen lenTy aBuiltin aLoad aTake aTakeX aStore splice aSlice aBd look_cons look_nil lookC_cons lookC_nil by_s by_C start_s start_C X.cells X.cell List.all_cons List.all_nil Bool.and_self Bool.not_true Bool.not_false false_implies true_implies forall_const and_true true_and and_self implies_true not_false_eq_true Nat.zero_add Nat.add_zero List.getD_cons_zero List.getD_cons_succ List.map_cons List.map_nil Option.bind_some Option.map_some Option.map_none List.getElem?_cons_zero List.getElem?_cons_succ List.length_cons List.length_nil List.drop_zero List.drop_succ_cons List.take_succ_cons List.take_zero List.cons_append List.nil_append List.append_nil D.of List.length_map all_get_map Option.isSome_some and_false false_and Nat.lt_add_one Nat.zero_lt_succ decide_true decide_false aPart aSl2 Nat.lt_irrefl fzX litEs List.contains_cons List.elem_cons Bool.true_or Bool.or_true Bool.false_or Bool.or_false beq_self_eq_true
section
attribute [local go_sem] tsz9 tsz39 tel39 toNat_cast und9 tz9l iz9 aDst aSrc sS
theorem l1Cut_spec (s : ByteArray) (c : UInt8) (k : Nat) (hs : s.size ≤ 1000000) (hk : k ≤ 1000000) : FunR Tryd.prog 67 [.d (.str s), .d (.int .u8 c.toNat), .d (.int .i64 k)] (fun m => .vec m 1 0 (cutN c k s).length) (.vec 9 1 ((cutN c k s).map sS)) := by
  refine FunR.of ?_ rfl
  refine Spec.of (fn := Tryd.f67) Tryd.func67 rfl (by kernel_rfl) (rs := [.tmp 6]) rfl 1 (by simp [Tryd.f67]) rfl (by simp) ?_
  intro hreal
  rintro ⟨P, T, L0, w0, ι0, C0, U0⟩ hP hT hU
  subst hP hT
  refine st ?_
  all_goals first
  | fail_if_success with_reducible refine atR 0 ?_
  | (
    refine rg 0 [] [some 6] 1 ?_
    all_goals refine qP ?_
    all_goals refine qE ?_)
  all_goals first
  | fail_if_success with_reducible refine atR 1 ?_
  | (
    refine rg 1 [] [some 10, some 7] 2 ?_
    all_goals iterate 2 refine qP ?_
    all_goals refine qE ?_)
  all_goals first
  | fail_if_success with_reducible refine atR 2 ?_
  | (
    refine rg 2 [] [some 8] 1 ?_
    all_goals refine qP ?_
    all_goals refine qE ?_)
  all_goals first
  | fail_if_success with_reducible refine atR 3 ?_
  | (
    refine rg 3 [] [some 9] 1 ?_
    all_goals refine qP ?_
    all_goals refine qE ?_)
  all_goals first
  | fail_if_success with_reducible refine AW.rounds (α := (Nat × Nat × List ByteArray)) ?_ ?_ ?_ ?_ ?_ ?_ ?_ ?_
  | (
    refine AW.rounds (α := (Nat × Nat × List ByteArray)) (fun z => z.2.1 ≤ z.1 ∧ z.1 ≤ s.size ∧ z.2.2.length ≤ k ∧ (∀ j, z.2.1 ≤ j → j < z.1 → s.data[j]? ≠ some c) ∧ cutN c k s = z.2.2 ++ cutN c (k - z.2.2.length) (s.extract z.2.1 s.size)) (fun z => St.by [(0, .d (.str s)), (1, .d (.int .u8 c.toNat)), (2, .d (.int .i64 k)), (7, .vec 2 1 0 z.2.2.length), (8, .d (.int .i64 z.2.1)), (9, .d (.int .i64 z.1))] [(2, .vec 9 1 (z.2.2.map sS))]) (fun z => s.size - z.1) 6 (0, 0, []) ?_ ?_ ?_
    · refine ⟨Nat.le_refl _, Nat.zero_le _, Nat.zero_le _, fun j h1 h2 => by simp only at h2; omega, ?_⟩
      simp only [List.nil_append, List.length_nil, Nat.sub_zero]
      rw [ext_all]
    · refine Vw.to [] _ _ (vU hU) ?_ ?_ (by simp [tauL])
      · refine vd (vd (vd (vx (vd (vd (trivial))))))
      · exact ⟨⟨by simp, rfl, cl3⟩, trivial⟩
    · intro z hJ
      refine st ?_
      obtain ⟨hJ1, hJ2, hJ3, hJ4, hJ5⟩ := hJ
      all_goals first
      | fail_if_success with_reducible refine atR 4 ?_
      | (
        refine rg 4 [] [some 11, some 12, some 13, some 14, some 15, some 16, some 17, some 18, some 19, some 20] 10 ?_
        all_goals iterate 5 refine qP ?_
        all_goals first | refine qU 15 ?_ | (refine qS 15 ?_ ?_ <;> intro hg4_4 <;> try (cases hg4_4; done))
        all_goals iterate 5 refine qP ?_
        all_goals refine qE ?_)
      all_goals first
      | fail_if_success with_reducible refine atC 20 ?_
      | (
        refine cn 20 ?_ ?_ <;> intro hc20 <;> try (cases hc20; done)
        all_goals refine st ?_)
      all_goals first
      | fail_if_success with_reducible refine atR 6 ?_
      | (
        refine rg 6 [] [some 23, some 24, some 25, some 26, some 27] 5 ?_
        all_goals iterate 2 refine qP ?_
        all_goals (
          refine qL_cons ?_
          intro R hR
          refine sm ?_
          refine ⟨⟨by omega, by omega⟩, ?_⟩
          intro x1 hx1
          all_goals (refine hR _ ?_; clear hR R))
        all_goals iterate 2 refine qP ?_
        all_goals refine qE ?_)
      all_goals first
      | fail_if_success with_reducible refine atC 27 ?_
      | (
        refine cn 27 ?_ ?_ <;> intro hc27 <;> try (cases hc27; done)
        all_goals refine st ?_)
      all_goals first
      | fail_if_success with_reducible refine atR 7 ?_
      | (
        refine rg 7 [5] [some 28, some 29, some 30, some 31, some 32, some 33, some 34, some 7] 8 ?_
        all_goals iterate 4 refine qP ?_
        all_goals (
          refine qL_cons ?_
          intro R hR
          refine sm ?_
          refine ⟨⟨by omega, by omega, by omega⟩, ?_⟩
          all_goals (refine hR _ ?_; clear hR R))
        all_goals refine qP ?_
        all_goals (
          refine qL_cons ?_
          intro R hR
          refine sm ?_
          refine ⟨by simp [sS], by first | omega | (simp; omega), ?_⟩
          all_goals (refine hR _ ?_; clear hR R))
        all_goals refine qP ?_
        all_goals refine qE ?_)
      all_goals first
      | fail_if_success with_reducible refine atR 8 ?_
      | (
        refine rg 8 [] [some 35, some 36, some 8] 3 ?_
        all_goals refine qP ?_
        all_goals (
          refine qL_cons ?_
          intro R hR
          refine sm ?_
          rw [wrap64 (by omega) (by omega)]
          all_goals (refine hR _ ?_; clear hR R))
        all_goals refine qP ?_
        all_goals refine qE ?_)
      all_goals first
      | fail_if_success with_reducible refine atR 5 ?_
      | (
        refine rg 5 [] [some 21, some 22, some 9] 3 ?_
        all_goals refine qP ?_
        all_goals (
          refine qL_cons ?_
          intro R hR
          refine sm ?_
          rw [wrap64 (by omega) (by omega)]
          all_goals (refine hR _ ?_; clear hR R))
        all_goals refine qP ?_
        all_goals refine qE ?_)
      all_goals first
      | fail_if_success with_reducible refine ⟨z, ?_, ?_, ?_⟩
      | (
          refine ⟨(z.1 + 1, z.2.1, z.2.2), ?_, ?_, ?_⟩
          · refine ⟨by simp only; omega, by simp only; omega, hJ3, fun j h1 h2 => ?_, hJ5⟩
            by_cases hji : j = z.1
            · subst hji
              intro hh
              rw [hx1] at hh
              cases hh
              simp at hc27
            · exact hJ4 j h1 (by simp only at h2; omega)
          · simp only; omega
          · refine Vw.to [] _ _ (vU hU) ?_ ?_ (by simp [tauL])
            · exact vd (vd (vd (vx (vw_d (by first | exact cl2 | (refine sm2 ?_; congr 1)) (vw_d (by first | exact cl2 | (refine sm2 ?_; congr 1)) trivial)))))
            · exact ⟨⟨by simp, rfl, cl3⟩, trivial⟩)
      | (
          refine ⟨(z.1 + 1, z.1 + 1, z.2.2 ++ [s.extract z.2.1 z.1]), ?_, ?_, ?_⟩
          · have hcc : x1 = c := by
              have := hc27
              exact UInt8.toNat_inj.1 (by omega)
            subst hcc
            refine ⟨by simp only; omega, by simp only; omega, by simp; omega, fun j h1 h2 => by simp only at h1 h2; omega, ?_⟩
            rw [hJ5]
            have hk1 : k - z.2.2.length = (k - (z.2.2.length + 1)) + 1 := by omega
            rw [hk1, cut_hit hJ1 (by omega) hx1 hJ4]
            simp
          · simp only; omega
          · refine Vw.to [(2, 27)] _ _ (fun n hn => absurd (hU n hn) (by omega)) ?_ ?_ (by simp [tauL])
            · refine vd (vd (vd (vw_x ?_ rfl (vw_d (by first | exact cl2 | (refine sm2 ?_; congr 1)) (vw_d (by first | exact cl2 | (refine sm2 ?_; congr 1)) trivial)))))
              refine sm2 ?_
              simp
            · refine ⟨⟨by simp, rfl, ?_⟩, trivial⟩
              refine sm3 ?_
              simp [sS])
      all_goals first
      | fail_if_success with_reducible refine atR 9 ?_
      | (
        refine rg 9 [4] [some 37, some 38, some 39, some 40, some 41, some 42, some 6] 7 ?_
        all_goals iterate 3 refine qP ?_
        all_goals (
          refine qL_cons ?_
          intro R hR
          refine sm ?_
          refine ⟨⟨by omega, by omega⟩, ?_⟩
          all_goals (refine hR _ ?_; clear hR R))
        all_goals refine qP ?_
        all_goals (
          refine qL_cons ?_
          intro R hR
          refine sm ?_
          refine ⟨by simp [sS], by first | omega | (simp; omega), ?_⟩
          all_goals (refine hR _ ?_; clear hR R))
        all_goals refine qP ?_
        all_goals refine qE ?_)
      all_goals (
        have hR : cutN c k s = z.2.2 ++ [s.extract z.2.1 s.size] := by
          rw [hJ5]
          congr 1
          by_cases hzi : z.1 < s.size
          · have : k - z.2.2.length = 0 := by omega
            rw [this, cut_zero]
          · exact cut_miss (fun j h1 h2 => hJ4 j h1 (by omega))
        rw [hR]
        refine ret_vec (ty := 9) 21 hU ?_ ?_
        · refine sm ?_
          simp
        · refine sm ?_
          simp [sS]))

end
end Go.Proofs.YtkbnkcdaiahoeaaDoor
namespace Go.Proofs.YtkbnkcdaiahoeaaDoor
open Go Go.RowKit
set_option maxRecDepth 100000
set_option maxHeartbeats 4000000
set_option linter.unusedSimpArgs false
set_option linter.unusedVariables false
theorem tsz35 : tsz Tryd.prog 35 = some (true, 2) := by kernel_rfl
theorem tfld35 : tfld Tryd.prog 35 = some [(0, 9), (1, 9)] := by kernel_rfl
theorem zero35 : tzero Tryd.prog 35 = some [.d (.str ByteArray.empty), .d (.str ByteArray.empty)] := by kernel_rfl
theorem tel25 : telem Tryd.prog 25 = some (35, 2, 32) := by kernel_rfl
theorem und5b : Tryd.prog.underlying 5 = some (.int .u8) := by kernel_rfl
structure Ow where
  path : ByteArray
  who : ByteArray
def owX (o : Ow) : List D := [.str o.path, .str o.who]
def okO (os : List Ow) (i : Nat) : Bool := match os[i]? with
  | some o => pthB o.path && nmB o.who && (i == 0 || match os[i - 1]? with | some r => strLt r.path o.path | none => true)
  | none => true
/-- Who owns which path, by paths that ascend, not too many. -/
def owB (os : List Ow) : Bool := (List.range os.length).all (okO os) && decide ((os.length : Int) ≤ 5)
theorem ow_end {os : List Ow} {i : Nat} (h : ∀ j, j < i → okO os j = true) (hi : os.length ≤ i) : decide ((os.length : Int) ≤ 5) = owB os := by
  have : (List.range os.length).all (okO os) = true := by
    rw [List.all_eq_true]
    intro j hj
    exact h j (by have := List.mem_range.1 hj; omega)
  simp [owB, this]
theorem ow_bad {os : List Ow} {i : Nat} (hi : i < os.length) (h : okO os i = false) : false = owB os := by
  have : (List.range os.length).all (okO os) = false := by
    rw [List.all_eq_false]
    exact ⟨i, List.mem_range.2 hi, by simp [h]⟩
  simp [owB, this]
theorem okO_1 {os : List Ow} {i : Nat} {x : Ow} (hx : os[i]? = some x) (hp : pthB x.path = true) (hn : nmB x.who = true) (hi : i = 0) : okO os i = true := by
  subst hi; simp [okO, hx, hn, hp]
theorem okO_2 {os : List Ow} {i : Nat} {x r : Ow} (hx : os[i]? = some x) (hp : pthB x.path = true) (hn : nmB x.who = true) (hr : os[i - 1]? = some r) (h1 : strLt r.path x.path = true) : okO os i = true := by
  simp [okO, hx, hn, hp, hr, h1]
theorem okO_3 {os : List Ow} {i : Nat} {x : Ow} (hx : os[i]? = some x) (hp : pthB x.path = false ∨ nmB x.who = false) : okO os i = false := by
  rcases hp with h | h <;> simp [okO, hx, h]
theorem okO_4 {os : List Ow} {i : Nat} {x r : Ow} (hx : os[i]? = some x) (hi : 0 < i) (hr : os[i - 1]? = some r) (h1 : strLt r.path x.path = false) : okO os i = false := by
  simp [okO, hx, hr, h1, show i ≠ 0 by omega]
theorem strLt_lt {a b : ByteArray} (h : strLt a b = true) : ¬ (strLt b a = true ∨ b = a) := by
  rintro (h1 | h1)
  · rw [strLt_asymm h] at h1; cases h1
  · subst h1; rw [strLt_irrefl] at h; cases h
theorem get_use {α : Type} {l : List α} {i : Nat} {x : α} {Φ : α → Prop} (hx : l[i]? = some x) (h : Φ x) : ∀ z, l[i]? = some z → Φ z := by
  intro z hz
  rw [hx] at hz
  cases hz
  exact h
attribute [local go_sem] List.size_toArray Int.toNat_zero Nat.sub_zero size_mk top_val eq_self datL X.dat u8min u8max i64min i64max stepT gdO aop ev lit litOk putF fzX_false putO upd app List.contains_nil List.elem_nil aBin aInt aStr aBool aLen lenTy aBuiltin aLoad aTake aTakeX aStore splice aSlice aBd look_cons look_nil lookC_cons lookC_nil by_s by_C start_s start_C X.cells X.cell List.all_cons List.all_nil Bool.and_self Bool.not_true Bool.not_false false_implies true_implies forall_const and_true true_and and_self implies_true not_false_eq_true Nat.zero_add Nat.add_zero List.getD_cons_zero List.getD_cons_succ List.map_cons List.map_nil Option.bind_some Option.map_some Option.map_none List.getElem?_cons_zero List.getElem?_cons_succ List.length_cons List.length_nil List.drop_zero List.drop_succ_cons List.take_succ_cons List.take_zero List.cons_append List.nil_append List.append_nil D.of List.length_map all_get_map Option.isSome_some and_false false_and Nat.lt_add_one Nat.zero_lt_succ decide_true decide_false aPart aSl2 Nat.lt_irrefl fzX litEs List.contains_cons List.elem_cons Bool.true_or Bool.or_true Bool.false_or Bool.or_false beq_self_eq_true
section
attribute [local go_sem] tsz9 tsz39 tel39 toNat_cast und9 sS
theorem l4Path_spec (s : ByteArray) (hs : s.size ≤ 1000000) : Fun Tryd.prog 40 [.d (.str s)] (.d (.bool (pthB s))) := by
  refine Fun.of ?_ rfl rfl
  refine Spec.of (fn := Tryd.f40) Tryd.func40 rfl (by kernel_rfl) (rs := [.tmp 2]) rfl 1 (by simp [Tryd.f40]) rfl (by simp) ?_
  intro hreal
  rintro ⟨P, T, L0, w0, ι0, C0, U0⟩ hP hT hU
  subst hP hT
  refine st ?_
  have hcl := cut_one 47 3 s
  all_goals first
  | fail_if_success with_reducible refine atR 0 ?_
  | (
    refine rg 0 [] [some 2] 1 ?_
    all_goals refine qP ?_
    all_goals refine qE ?_)
  all_goals first
  | fail_if_success with_reducible refine atR 1 ?_
  | (
    refine rg 1 [] [some 5, some 6, some 3] 3 ?_
    all_goals refine qP ?_
    all_goals (
      refine qL_cons ?_
      intro R hR
      refine sm ?_
      refine call_row (l1Cut_spec s 47 3 hs (by omega)) [] ?_ (.inl rfl) ?_
      · exact ⟨.inl rfl, ⟨.inl rfl, ⟨.inl rfl, trivial⟩⟩⟩
      refine sm ?_
      all_goals (refine hR _ ?_; clear hR R))
    all_goals refine qP ?_
    all_goals refine qE ?_)
  all_goals first
  | fail_if_success with_reducible refine atR 2 ?_
  | (
    refine rg 2 [] [some 4] 1 ?_
    all_goals refine qP ?_
    all_goals refine qE ?_)
  all_goals first
  | fail_if_success with_reducible refine AW.rounds (α := Nat) ?_ ?_ ?_ ?_ ?_ ?_ ?_ ?_
  | (
    refine AW.rounds (α := Nat) (fun i => i ≤ (cutN 47 3 s).length ∧ ∀ j y, j < i → (cutN 47 3 s)[j]? = some y → nmB y = true) (fun i => St.by [(0, .d (.str s)), (3, .vec 3 1 0 (cutN 47 3 s).length), (4, .d (.int .i64 i))] [(3, .vec 9 1 ((cutN 47 3 s).map sS))]) (fun i => (cutN 47 3 s).length - i) 5 0 ?_ ?_ ?_
    · exact ⟨by omega, fun j y hj => by omega⟩
    · refine Vw.to [] _ _ (vU hU) ?_ ?_ (by simp [tauL])
      · refine vd (vx (vw_d ?_ (trivial)))
        · first
          | exact cl2
          | (
            refine sm2 ?_
            all_goals (
             rfl))
      · exact ⟨⟨by simp, rfl, cl3⟩, trivial⟩
    · intro i hJ
      refine st ?_
      obtain ⟨hJ1, hJ2⟩ := hJ
      all_goals first
      | fail_if_success with_reducible refine atR 3 ?_
      | (
        refine rg 3 [] [some 7, some 8, some 9, some 10] 4 ?_
        all_goals iterate 4 refine qP ?_
        all_goals refine qE ?_)
      all_goals first
      | fail_if_success with_reducible refine atC 10 ?_
      | (
        refine cn 10 ?_ ?_ <;> intro hc10 <;> try (cases hc10; done)
        all_goals refine st ?_)
      all_goals first
      | fail_if_success with_reducible refine atR 5 ?_
      | (
        refine rg 5 [] [some 13, some 14, some 15, some 16, some 17, some 18] 6 ?_
        all_goals iterate 2 refine qP ?_
        all_goals (
          refine qL_cons ?_
          intro R hR
          refine sm ?_
          refine ⟨⟨by omega, by omega⟩, ?_⟩
          all_goals (refine hR _ ?_; clear hR R))
        all_goals (
          refine qL_cons ?_
          intro R hR
          refine sm ?_
          refine ⟨by omega, ?_⟩
          intro x hx
          all_goals (refine hR _ ?_; clear hR R))
        all_goals (
          refine qL_cons ?_
          intro R hR
          refine sm ?_
          refine call_fun (l4Name_spec x) [] ?_ (.inl rfl) ?_
          · exact ⟨.inl rfl, trivial⟩
          refine sm ?_
          all_goals (refine hR _ ?_; clear hR R))
        all_goals refine qP ?_
        all_goals refine qE ?_)
      all_goals first
      | fail_if_success with_reducible refine atC 18 ?_
      | (
        refine cn 18 ?_ ?_ <;> intro hc18 <;> try (cases hc18; done)
        all_goals refine st ?_)
      all_goals first
      | fail_if_success with_reducible refine atR 6 ?_
      | (
        refine rg 6 [] [some 2] 1 ?_
        all_goals refine qP ?_
        all_goals refine qE ?_)
      all_goals first
      | fail_if_success with_reducible refine atR 4 ?_
      | (
        refine rg 4 [] [some 11, some 12, some 4] 3 ?_
        all_goals refine qP ?_
        all_goals (
          refine qL_cons ?_
          intro R hR
          refine sm ?_
          rw [wrap64 (by omega) (by omega)]
          all_goals (refine hR _ ?_; clear hR R))
        all_goals refine qP ?_
        all_goals refine qE ?_)
      all_goals first
      | fail_if_success with_reducible refine ⟨i + 1, ?_, ?_, ?_⟩
      | (
        refine ⟨i + 1, ?_, ?_, ?_⟩
        · refine ⟨by omega, fun j y hj hy => ?_⟩
          by_cases hji : j = i
          · subst hji; rw [hx] at hy; cases hy; simpa using hc18
          · exact hJ2 j y (by omega) hy
        · omega
        · refine Vw.to [] _ _ (vU hU) ?_ ?_ (by simp [tauL])
          · refine vd (vx (vw_d ?_ (trivial)))
            · first
              | exact cl2
              | (
                refine sm2 ?_
                all_goals (
                 congr 1))
          · exact ⟨⟨by simp, rfl, cl3⟩, trivial⟩)
      all_goals first
      | fail_if_success with_reducible refine atR 7 ?_
      | (
        refine rg 7 [] [some 19, some 20, some 21, some 2] 4 ?_
        all_goals iterate 4 refine qP ?_
        all_goals refine qE ?_)
      all_goals first
      | fail_if_success with_reducible refine ret_fun (t := 2) ?_ ?_
      | (
        refine ret_fun (t := 2) ?_ (fun _ => rfl)
        first
        | exact cl
        | (
          try refine sm ?_
          all_goals (
           first
           | (congr 2; rw [← pth_cut]
              have : (cutN 47 3 s).all nmB = true := by
                rw [List.all_eq_true]
                intro y hy
                obtain ⟨j, hj, rfl⟩ := List.mem_iff_getElem.1 hy
                exact hJ2 j _ (by omega) (by simp)
              rw [this, Bool.and_true])
           | (congr 2; rw [← pth_cut]
              have : (cutN 47 3 s).all nmB = false := by
                rw [List.all_eq_false]
                exact ⟨x, List.mem_of_getElem? hx, by simpa using hc18⟩
              rw [this, Bool.and_false])))))

end
section
attribute [local go_sem] tsz9 tsz39 tel39 toNat_cast und9 sS und5b
theorem l4In_spec (dir path : ByteArray) : Fun Tryd.prog 68 [.d (.str dir), .d (.str path)] (.d (.bool (inB dir path))) := by
  refine Fun.of ?_ rfl rfl
  refine Spec.of (fn := Tryd.f68) Tryd.func68 rfl (by kernel_rfl) (rs := [.tmp 4]) rfl 1 (by simp [Tryd.f68]) rfl (by simp) ?_
  intro hreal
  rintro ⟨P, T, L0, w0, ι0, C0, U0⟩ hP hT hU
  subst hP hT
  refine st ?_
  all_goals first
  | fail_if_success with_reducible refine atR 0 ?_
  | (
    refine rg 0 [] [some 4] 1 ?_
    all_goals refine qP ?_
    all_goals refine qE ?_)
  all_goals first
  | fail_if_success with_reducible refine atR 1 ?_
  | (
    refine rg 1 [] [some 5, some 6, some 7, some 8, some 9, some 10, some 11, some 12, some 13, some 14, some 15, some 16, some 17, some 18, some 19, some 20, some 21, some 22, some 23, some 24, some 4] 21 ?_
    all_goals iterate 6 refine qP ?_
    all_goals first | refine qU 10 ?_ | (refine qS 10 ?_ ?_ <;> intro hg1_5 <;> try (cases hg1_5; done))
    all_goals iterate 3 refine qP ?_
    all_goals first
    | (
      refine qL_cons ?_
      intro R hR
      refine sm ?_
      refine ⟨⟨by omega, by omega⟩, ?_⟩
      refine hR _ ?_
      clear hR R)
    | refine qP ?_
    all_goals iterate 4 refine qP ?_
    all_goals first | refine qU 18 ?_ | (refine qS 18 ?_ ?_ <;> intro hg1_13 <;> try (cases hg1_13; done))
    all_goals iterate 3 refine qP ?_
    all_goals first
    | (
      refine qL_cons ?_
      intro R hR
      refine sm ?_
      refine ⟨⟨by omega, by omega⟩, ?_⟩
      intro x hx
      refine hR _ ?_
      clear hR R)
    | refine qP ?_
    all_goals iterate 3 refine qP ?_
    all_goals refine qE ?_)
  all_goals first
  | fail_if_success with_reducible refine ret_fun (t := 4) ?_ ?_
  | (
    refine ret_fun (t := 4) ?_ (fun _ => rfl)
    first
    | exact cl
    | (
      try refine sm ?_
      all_goals (
       (congr 2
        simp only [inB]
        first
        | (have hxx : decide (path.data[dir.size]? = some 47) = decide ((x.toNat : Int) = 47) := by
             rw [hx]
             refine decide_eq_decide.2 ⟨fun h => by cases h; rfl, fun h => ?_⟩
             congr 1
             exact UInt8.toNat_inj.1 (by simpa using (show x.toNat = 47 by omega))
           rw [hxx]
           simp_all; done)
        | (simp_all; done)
        | (simp_all; intro h; omega)))))

end
section
attribute [local go_sem] tsz9 tsz39 tel39 toNat_cast und9 tsz35 tfld35 tel25 zero35 owX
theorem implOwnersOk (os : List Ow) (hs : ∀ o ∈ os, o.path.size ≤ 1000000) : Fun Tryd.prog 12 [.d (.of owX os)] (.d (.bool (owB os))) := by
  refine Fun.of ?_ rfl rfl
  refine Spec.of (fn := Tryd.f12) Tryd.func12 rfl (by kernel_rfl) (rs := [.tmp 2]) rfl 1 (by simp [Tryd.f12]) rfl (by simp) ?_
  intro hreal
  rintro ⟨P, T, L0, w0, ι0, C0, U0⟩ hP hT hU
  subst hP hT
  refine st ?_
  have hlen : os.length ≤ 9223372036854775807 := by simpa using D.real_len (X.real_d (hreal (.d (.of owX os)) (by simp)) : D.real (.sl (os.map owX)))
  all_goals first
  | fail_if_success with_reducible refine atR 0 ?_
  | (
    refine rg 0 [] [some 2] 1 ?_
    all_goals refine qP ?_
    all_goals refine qE ?_)
  all_goals first
  | fail_if_success with_reducible refine atR 1 ?_
  | (
    refine rg 1 [] [some 5, some 6, some 7] 3 ?_
    all_goals iterate 3 refine qP ?_
    all_goals refine qE ?_)
  all_goals first
  | fail_if_success with_reducible refine AW.rounds (α := Nat) ?_ ?_ ?_ ?_ ?_ ?_ ?_ ?_
  | (
    refine AW.rounds (α := Nat) (fun i => i ≤ os.length ∧ ∀ j, j < i → okO os j = true) (fun i => St.by [(0, .d (.of owX os)), (5, .d (.of owX os)), (6, .d (.int .i64 os.length)), (7, .d (.int .i64 i))] []) (fun i => os.length - i) 5 0 ?_ ?_ ?_
    · exact ⟨by omega, fun j hj => by omega⟩
    · refine Vw.to [] _ _ (vU hU) ?_ ?_ (by simp [tauL])
      · refine vd (vd (vd (vw_d ?_ (trivial))))
        · first
          | exact cl2
          | (
            refine sm2 ?_
            all_goals (
             rfl))
      · trivial
    · intro i hJ
      refine st ?_
      obtain ⟨hJ1, hJ2⟩ := hJ
      all_goals first
      | fail_if_success with_reducible refine atR 2 ?_
      | (
        refine rg 2 [] [some 8] 1 ?_
        all_goals refine qP ?_
        all_goals refine qE ?_)
      all_goals first
      | fail_if_success with_reducible refine atC 8 ?_
      | (
        refine cn 8 ?_ ?_ <;> intro hc8 <;> try (cases hc8; done)
        all_goals refine st ?_)
      all_goals first
      | fail_if_success with_reducible refine atR 3 ?_
      | (
        refine rg 3 [] [some 9, some 10, some 11, some 4, some 3, none] 6 ?_
        all_goals refine qP ?_
        all_goals (
          refine qL_cons ?_
          intro R hR
          refine sm ?_
          refine ⟨⟨by omega, by omega⟩, ?_⟩
          intro x hx
          have hxs := hs x (List.mem_of_getElem? hx)
          try simp only [go_sem, reduceIte, reduceCtorEq, Nat.reduceAdd, Nat.reduceEqDiff, Nat.reduceLeDiff, Nat.reduceLT, Nat.reduceSub, Int.reduceLE, Int.reduceNeg, Int.reduceLT, owX]
          all_goals (refine hR _ ?_; clear hR R))
        all_goals iterate 4 refine qP ?_
        all_goals refine qE ?_)
      all_goals first
      | fail_if_success with_reducible refine atR 4 ?_
      | (
        refine rgD 4 [] [some 12, some 13, some 14, some 15, some 16, some 17, some 18, some 19, some 20, some 21, some 22, some 23, some 24, some 25, some 26, some 27, some 28, some 29, some 30, some 31, some 32, some 33, some 34, some 35, some 36] 25 26 ?_
        intro av hav
        have hf9 := freeD 9 hav
        all_goals refine qP ?_
        all_goals (
          refine qL_cons ?_
          intro R hR
          simp only [go_sem, reduceIte, reduceCtorEq, Nat.reduceAdd, Nat.reduceEqDiff, Nat.reduceLeDiff, Nat.reduceLT, Nat.reduceSub, Int.reduceLE, Int.reduceNeg, Int.reduceLT, hf9]
          all_goals (refine hR _ ?_; clear hR R))
        all_goals (
          refine qL_cons ?_
          intro R hR
          simp only [go_sem, reduceIte, reduceCtorEq, Nat.reduceAdd, Nat.reduceEqDiff, Nat.reduceLeDiff, Nat.reduceLT, Nat.reduceSub, Int.reduceLE, Int.reduceNeg, Int.reduceLT, hf9]
          refine call_fun (PathOk_spec x.path hxs) [] ?_ (.inl rfl) ?_
          · exact ⟨.inl rfl, trivial⟩
          simp only [go_sem, reduceIte, reduceCtorEq, Nat.reduceAdd, Nat.reduceEqDiff, Nat.reduceLeDiff, Nat.reduceLT, Nat.reduceSub, Int.reduceLE, Int.reduceNeg, Int.reduceLT, hf9]
          all_goals (refine hR _ ?_; clear hR R))
        all_goals iterate 2 refine qP ?_
        all_goals first | refine qU 16 ?_ | (refine qS 16 ?_ ?_ <;> intro hg4_4 <;> try (cases hg4_4; done))
        all_goals refine qP ?_
        all_goals first
        | (
          refine qL_cons ?_
          intro R hR
          simp only [go_sem, reduceIte, reduceCtorEq, Nat.reduceAdd, Nat.reduceEqDiff, Nat.reduceLeDiff, Nat.reduceLT, Nat.reduceSub, Int.reduceLE, Int.reduceNeg, Int.reduceLT, hf9]
          refine hR _ ?_
          clear hR R)
        | refine qP ?_
        all_goals first
        | (
          refine qL_cons ?_
          intro R hR
          simp only [go_sem, reduceIte, reduceCtorEq, Nat.reduceAdd, Nat.reduceEqDiff, Nat.reduceLeDiff, Nat.reduceLT, Nat.reduceSub, Int.reduceLE, Int.reduceNeg, Int.reduceLT, hf9]
          refine call_fun (nameOk_spec x.who) [] ?_ (.inl rfl) ?_
          · exact ⟨.inl rfl, trivial⟩
          simp only [go_sem, reduceIte, reduceCtorEq, Nat.reduceAdd, Nat.reduceEqDiff, Nat.reduceLeDiff, Nat.reduceLT, Nat.reduceSub, Int.reduceLE, Int.reduceNeg, Int.reduceLT, hf9]
          refine hR _ ?_
          clear hR R)
        | refine qP ?_
        all_goals iterate 3 refine qP ?_
        all_goals first | refine qU 22 ?_ | (refine qS 22 ?_ ?_ <;> intro hg4_10 <;> try (cases hg4_10; done))
        all_goals iterate 3 refine qP ?_
        all_goals first | refine qU 25 ?_ | (refine qS 25 ?_ ?_ <;> intro hg4_13 <;> try (cases hg4_13; done))
        all_goals iterate 2 refine qP ?_
        all_goals first
        | (
          refine qL_cons ?_
          intro R hR
          simp only [go_sem, reduceIte, reduceCtorEq, Nat.reduceAdd, Nat.reduceEqDiff, Nat.reduceLeDiff, Nat.reduceLT, Nat.reduceSub, Int.reduceLE, Int.reduceNeg, Int.reduceLT, hf9]
          rw [wrap64 (by omega) (by omega)]
          refine hR _ ?_
          clear hR R)
        | refine qP ?_
        all_goals first
        | (
          refine qL_cons ?_
          intro R hR
          simp only [go_sem, reduceIte, reduceCtorEq, Nat.reduceAdd, Nat.reduceEqDiff, Nat.reduceLeDiff, Nat.reduceLT, Nat.reduceSub, Int.reduceLE, Int.reduceNeg, Int.reduceLT, hf9, sub_cast (show 0 < i by omega)]
          refine ⟨⟨by omega, by omega⟩, ?_⟩
          intro r hr
          try simp only [go_sem, reduceIte, reduceCtorEq, Nat.reduceAdd, Nat.reduceEqDiff, Nat.reduceLeDiff, Nat.reduceLT, Nat.reduceSub, Int.reduceLE, Int.reduceNeg, Int.reduceLT, hf9, owX]
          refine hR _ ?_
          clear hR R)
        | refine qP ?_
        all_goals refine qP ?_
        all_goals first
        | (
          refine qL_cons ?_
          intro R hR
          simp only [go_sem, reduceIte, reduceCtorEq, Nat.reduceAdd, Nat.reduceEqDiff, Nat.reduceLeDiff, Nat.reduceLT, Nat.reduceSub, Int.reduceLE, Int.reduceNeg, Int.reduceLT, hf9]
          refine hR _ ?_
          clear hR R)
        | refine qP ?_
        all_goals refine qP ?_
        all_goals first
        | (
          refine qL_cons ?_
          intro R hR
          simp only [go_sem, reduceIte, reduceCtorEq, Nat.reduceAdd, Nat.reduceEqDiff, Nat.reduceLeDiff, Nat.reduceLT, Nat.reduceSub, Int.reduceLE, Int.reduceNeg, Int.reduceLT, hf9]
          refine hR _ ?_
          clear hR R)
        | refine qP ?_
        all_goals iterate 3 refine qP ?_
        all_goals refine qE ?_
        all_goals clear hf9 hav av)
      all_goals first
      | fail_if_success with_reducible refine atC 36 ?_
      | (
        refine cn 36 ?_ ?_ <;> intro hc36 <;> try (cases hc36; done)
        all_goals refine st ?_)
      all_goals first
      | fail_if_success with_reducible refine atR 5 ?_
      | (
        refine rg 5 [] [some 2] 1 ?_
        all_goals refine qP ?_
        all_goals refine qE ?_)
      all_goals first
      | fail_if_success with_reducible refine atR 6 ?_
      | (
        refine rg 6 [] [some 37, some 7] 2 ?_
        all_goals (
          refine qL_cons ?_
          intro R hR
          refine sm ?_
          rw [wrap64 (by omega) (by omega)]
          all_goals (refine hR _ ?_; clear hR R))
        all_goals refine qP ?_
        all_goals refine qE ?_)
      all_goals first
      | fail_if_success with_reducible refine ⟨i + 1, ?_, ?_, ?_⟩
      | (
        refine ⟨i + 1, ?_, ?_, ?_⟩
        · refine ⟨by omega, fun j hj => ?_⟩
          by_cases hji : j = i
          · subst hji
            first
            | (refine okO_1 hx ?_ ?_ ?_ <;> first | omega | simp_all; done)
            | (refine okO_2 hx ?_ ?_ hr ?_ <;> first | (simp_all; done) | (exact strLt_of (by simp_all) (by simp_all)))
          · exact hJ2 j (by omega)
        · omega
        · refine Vw.to [] _ _ (vU hU) ?_ ?_ (by simp [tauL])
          · refine vd (vd (vd (vw_d ?_ (trivial))))
            · first
              | exact cl2
              | (
                refine sm2 ?_
                all_goals (
                 congr 1))
          · trivial)
      all_goals first
      | fail_if_success with_reducible refine atR 7 ?_
      | (
        refine rg 7 [] [some 38, some 39, some 40, some 2] 4 ?_
        all_goals iterate 4 refine qP ?_
        all_goals refine qE ?_)
      all_goals first
      | fail_if_success with_reducible refine ret_fun (t := 2) ?_ ?_
      | (
        refine ret_fun (t := 2) ?_ (fun _ => rfl)
        first
        | exact cl
        | (
          try refine sm ?_
          all_goals (
           first
           | (congr 2; exact ow_end hJ2 (by omega))
           | (congr 2
              refine ow_bad (i := i) (by omega) ?_
              first
              | (refine okO_4 hx (by omega) hr ?_; first | assumption | (refine Bool.eq_false_iff.2 (fun h => strLt_lt h ?_); assumption))
              | (refine okO_3 hx (.inl ?_); simp_all; done)
              | (refine okO_3 hx (.inr ?_); simp_all; done))))))

end
section
attribute [local go_sem] tsz9 tsz39 tel39 toNat_cast und9 tsz35 tfld35 tel25 zero35 owX
theorem l17Owners_spec (os : List Ow) (hs : ∀ o ∈ os, o.path.size ≤ 1000000) : Fun Tryd.prog 30 [.d (.of owX os)] (.d (.bool (owB os))) := by
  refine Fun.of ?_ rfl rfl
  refine Spec.of (fn := Tryd.f30) Tryd.func30 rfl (by kernel_rfl) (rs := [.tmp 2]) rfl 1 (by simp [Tryd.f30]) rfl (by simp) ?_
  intro hreal
  rintro ⟨P, T, L0, w0, ι0, C0, U0⟩ hP hT hU
  subst hP hT
  refine st ?_
  have hlen : os.length ≤ 9223372036854775807 := by simpa using D.real_len (X.real_d (hreal (.d (.of owX os)) (by simp)) : D.real (.sl (os.map owX)))
  all_goals first
  | fail_if_success with_reducible refine atR 0 ?_
  | (
    refine rg 0 [] [some 2] 1 ?_
    all_goals refine qP ?_
    all_goals refine qE ?_)
  all_goals first
  | fail_if_success with_reducible refine atR 1 ?_
  | (
    refine rg 1 [] [some 3] 1 ?_
    all_goals refine qP ?_
    all_goals refine qE ?_)
  all_goals first
  | fail_if_success with_reducible refine AW.rounds (α := Nat) ?_ ?_ ?_ ?_ ?_ ?_ ?_ ?_
  | (
    refine AW.rounds (α := Nat) (fun i => i ≤ os.length ∧ ∀ j, j < i → okO os j = true) (fun i => St.by [(0, .d (.of owX os)), (3, .d (.int .i64 i))] []) (fun i => os.length - i) 2 0 ?_ ?_ ?_
    · exact ⟨by omega, fun j hj => by omega⟩
    · refine Vw.to [] _ _ (vU hU) ?_ ?_ (by simp [tauL])
      · refine vd (vw_d ?_ (trivial))
        · first
          | exact cl2
          | (
            refine sm2 ?_
            all_goals (
             rfl))
      · trivial
    · intro i hJ
      refine st ?_
      obtain ⟨hJ1, hJ2⟩ := hJ
      all_goals first
      | fail_if_success with_reducible refine atR 2 ?_
      | (
        refine rg 2 [] [some 4, some 5, some 6, some 7] 4 ?_
        all_goals iterate 4 refine qP ?_
        all_goals refine qE ?_)
      all_goals first
      | fail_if_success with_reducible refine atC 7 ?_
      | (
        refine cn 7 ?_ ?_ <;> intro hc7 <;> try (cases hc7; done)
        all_goals refine st ?_)
      all_goals first
      | fail_if_success with_reducible refine atR 4 ?_
      | (
        refine rgD 4 [] [some 10, some 11, some 12, some 13, some 14, some 15, some 16, some 17, some 18, some 19, some 20, some 21, some 22, some 23, some 24, some 25, some 26, some 27, some 28, some 29, some 30, some 31, some 32, some 33, some 34, some 35, some 36, some 37, some 38, some 39, some 40, some 41, some 42, some 43] 34 35 ?_
        intro av hav
        all_goals iterate 2 refine qP ?_
        all_goals (
          refine qL_cons ?_
          intro R hR
          refine sm ?_
          refine ⟨⟨by omega, by omega⟩, ?_⟩
          intro x hx
          have hxs := hs x (List.mem_of_getElem? hx)
          try simp only [go_sem, reduceIte, reduceCtorEq, Nat.reduceAdd, Nat.reduceEqDiff, Nat.reduceLeDiff, Nat.reduceLT, Nat.reduceSub, Int.reduceLE, Int.reduceNeg, Int.reduceLT, owX]
          all_goals (refine hR _ ?_; clear hR R))
        all_goals iterate 2 refine qP ?_
        all_goals (
          refine qL_cons ?_
          intro R hR
          refine sm ?_
          refine call_fun (l4Path_spec x.path hxs) [] ?_ (.inl rfl) ?_
          · exact ⟨.inl rfl, trivial⟩
          refine sm ?_
          all_goals (refine hR _ ?_; clear hR R))
        all_goals iterate 2 refine qP ?_
        all_goals first | refine qU 17 ?_ | (refine qS 17 ?_ ?_ <;> intro hg4_7 <;> try (cases hg4_7; done))
        all_goals iterate 2 refine qP ?_
        all_goals first
        | (
          refine qL_cons ?_
          intro R hR
          refine sm ?_
          refine ⟨⟨by omega, by omega⟩, ?_⟩
          refine get_use hx ?_
          try simp only [go_sem, reduceIte, reduceCtorEq, Nat.reduceAdd, Nat.reduceEqDiff, Nat.reduceLeDiff, Nat.reduceLT, Nat.reduceSub, Int.reduceLE, Int.reduceNeg, Int.reduceLT, owX]
          refine hR _ ?_
          clear hR R)
        | refine qP ?_
        all_goals iterate 2 refine qP ?_
        all_goals first
        | (
          refine qL_cons ?_
          intro R hR
          refine sm ?_
          refine call_fun (l4Name_spec x.who) [] ?_ (.inl rfl) ?_
          · exact ⟨.inl rfl, trivial⟩
          refine sm ?_
          refine hR _ ?_
          clear hR R)
        | refine qP ?_
        all_goals iterate 3 refine qP ?_
        all_goals first | refine qU 26 ?_ | (refine qS 26 ?_ ?_ <;> intro hg4_16 <;> try (cases hg4_16; done))
        all_goals iterate 3 refine qP ?_
        all_goals first | refine qU 29 ?_ | (refine qS 29 ?_ ?_ <;> intro hg4_19 <;> try (cases hg4_19; done))
        all_goals iterate 2 refine qP ?_
        all_goals first
        | (
          refine qL_cons ?_
          intro R hR
          refine sm ?_
          refine ⟨⟨by omega, by omega⟩, ?_⟩
          refine get_use hx ?_
          try simp only [go_sem, reduceIte, reduceCtorEq, Nat.reduceAdd, Nat.reduceEqDiff, Nat.reduceLeDiff, Nat.reduceLT, Nat.reduceSub, Int.reduceLE, Int.reduceNeg, Int.reduceLT, owX]
          refine hR _ ?_
          clear hR R)
        | refine qP ?_
        all_goals iterate 4 refine qP ?_
        all_goals first
        | (
          refine qL_cons ?_
          intro R hR
          refine sm ?_
          rw [wrap64 (by omega) (by omega)]
          refine hR _ ?_
          clear hR R)
        | refine qP ?_
        all_goals first
        | (
          refine qL_cons ?_
          intro R hR
          simp only [go_sem, reduceIte, reduceCtorEq, Nat.reduceAdd, Nat.reduceEqDiff, Nat.reduceLeDiff, Nat.reduceLT, Nat.reduceSub, Int.reduceLE, Int.reduceNeg, Int.reduceLT, sub_cast (show 0 < i by omega)]
          refine ⟨⟨by omega, by omega⟩, ?_⟩
          intro r hr
          try simp only [go_sem, reduceIte, reduceCtorEq, Nat.reduceAdd, Nat.reduceEqDiff, Nat.reduceLeDiff, Nat.reduceLT, Nat.reduceSub, Int.reduceLE, Int.reduceNeg, Int.reduceLT, owX]
          refine hR _ ?_
          clear hR R)
        | refine qP ?_
        all_goals iterate 5 refine qP ?_
        all_goals refine qE ?_
        all_goals clear  hav av)
      all_goals first
      | fail_if_success with_reducible refine atC 43 ?_
      | (
        refine cn 43 ?_ ?_ <;> intro hc43 <;> try (cases hc43; done)
        all_goals refine st ?_)
      all_goals first
      | fail_if_success with_reducible refine atR 5 ?_
      | (
        refine rg 5 [] [some 2] 1 ?_
        all_goals refine qP ?_
        all_goals refine qE ?_)
      all_goals first
      | fail_if_success with_reducible refine atR 3 ?_
      | (
        refine rg 3 [] [some 8, some 9, some 3] 3 ?_
        all_goals refine qP ?_
        all_goals (
          refine qL_cons ?_
          intro R hR
          refine sm ?_
          rw [wrap64 (by omega) (by omega)]
          all_goals (refine hR _ ?_; clear hR R))
        all_goals refine qP ?_
        all_goals refine qE ?_)
      all_goals first
      | fail_if_success with_reducible refine ⟨i + 1, ?_, ?_, ?_⟩
      | (
        refine ⟨i + 1, ?_, ?_, ?_⟩
        · refine ⟨by omega, fun j hj => ?_⟩
          by_cases hji : j = i
          · subst hji
            first
            | (refine okO_1 hx ?_ ?_ ?_ <;> first | omega | simp_all; done)
            | (refine okO_2 hx ?_ ?_ hr ?_ <;> first | (simp_all; done) | (exact strLt_of (by simp_all) (by simp_all)))
          · exact hJ2 j (by omega)
        · omega
        · refine Vw.to [] _ _ (vU hU) ?_ ?_ (by simp [tauL])
          · refine vd (vw_d ?_ (trivial))
            · first
              | exact cl2
              | (
                refine sm2 ?_
                all_goals (
                 congr 1))
          · trivial)
      all_goals first
      | fail_if_success with_reducible refine atR 6 ?_
      | (
        refine rg 6 [] [some 44, some 45, some 46, some 2] 4 ?_
        all_goals iterate 4 refine qP ?_
        all_goals refine qE ?_)
      all_goals first
      | fail_if_success with_reducible refine ret_fun (t := 2) ?_ ?_
      | (
        refine ret_fun (t := 2) ?_ (fun _ => rfl)
        first
        | exact cl
        | (
          try refine sm ?_
          all_goals (
           first
           | (congr 2; exact ow_end hJ2 (by omega))
           | (congr 2
              refine ow_bad (i := i) (by omega) ?_
              first
              | (refine okO_4 hx (by omega) hr ?_; first | assumption | (refine Bool.eq_false_iff.2 (fun h => strLt_lt h ?_); assumption))
              | (refine okO_3 hx (.inl ?_); simp_all; done)
              | (refine okO_3 hx (.inr ?_); simp_all; done))))))

end
section
attribute [local go_sem] tsz9 tsz39 tel39 toNat_cast und9 tsz35 tfld35 tel25 zero35 owX
theorem specOwnersOk (os : List Ow) (hs : ∀ o ∈ os, o.path.size ≤ 1000000) : Fun Tryd.prog 10 [.d (.of owX os)] (.d (.bool (owB os))) := by
  refine Fun.of ?_ rfl rfl
  refine Spec.of (fn := Tryd.f10) Tryd.func10 rfl (by kernel_rfl) (rs := [.tmp 2]) rfl 1 (by simp [Tryd.f10]) rfl (by simp) ?_
  intro hreal
  rintro ⟨P, T, L0, w0, ι0, C0, U0⟩ hP hT hU
  subst hP hT
  refine st ?_
  all_goals first
  | fail_if_success with_reducible refine atR 0 ?_
  | (
    refine rg 0 [] [some 2] 1 ?_
    all_goals refine qP ?_
    all_goals refine qE ?_)
  all_goals first
  | fail_if_success with_reducible refine atR 1 ?_
  | (
    refine rg 1 [] [some 3, some 4, some 2] 3 ?_
    all_goals refine qP ?_
    all_goals (
      refine qL_cons ?_
      intro R hR
      refine sm ?_
      refine call_fun (l17Owners_spec os hs) [] ?_ (.inl rfl) ?_
      · exact ⟨.inl rfl, trivial⟩
      refine sm ?_
      all_goals (refine hR _ ?_; clear hR R))
    all_goals refine qP ?_
    all_goals refine qE ?_)
  all_goals first
  | fail_if_success with_reducible refine ret_fun (t := 2) ?_ ?_
  | (
    refine ret_fun (t := 2) ?_ (fun _ => rfl)
    first
    | exact cl
    | (
      try refine sm ?_
      all_goals (
       rfl)))

end
end Go.Proofs.YtkbnkcdaiahoeaaDoor
namespace Go.Proofs.YtkbnkcdaiahoeaaDoor
open Go Go.RowKit Go.Shelf
set_option maxRecDepth 100000
set_option maxHeartbeats 4000000
set_option linter.unusedSimpArgs false
set_option linter.unusedVariables false
theorem tsz44 : tsz Tryd.prog 44 = some (true, 7) := by kernel_rfl
theorem tfld44 : tfld Tryd.prog 44 = some [(0, 3), (1, 9), (2, 9), (3, 9), (4, 9), (5, 3), (6, 39)] := by kernel_rfl
theorem tsz3' : tsz Tryd.prog 3 = some (false, 1) := by kernel_rfl
/-- A bar is in it. -/
def barB (s : ByteArray) : Bool := decide (0 ≤ Lib.indexByte s.data.toList 124)
theorem indexByte_pos (c : UInt8) : ∀ (l : List UInt8) (k : Nat), l[k]? = some c → 0 ≤ Lib.indexByte l c
  | [], k, h => by simp at h
  | b :: l, 0, h => by
    simp at h
    simp [Lib.indexByte, h]
  | b :: l, k + 1, h => by
    have ih := indexByte_pos c l k (by simpa using h)
    simp only [Lib.indexByte, beq_iff_eq]
    split
    · omega
    · split <;> omega
theorem bar_no {s : ByteArray} (h : ∀ j, j < s.size → s.data[j]? ≠ some 124) : barB s = false := by
  unfold barB
  rw [indexByte_none]
  · decide
  · intro k
    by_cases hk : k < s.size
    · have := h k hk
      simpa using this
    · have hl : s.data.toList.length = s.size := (Lib.size_eq s).symm
      rw [List.getElem?_eq_none (by omega)]
      simp
theorem bar_yes {s : ByteArray} {j : Nat} {c : UInt8} (h : s.data[j]? = some c) (hc : (c.toNat : Int) = 124) : barB s = true := by
  have : c = 124 := UInt8.toNat_inj.1 (by simpa using (show c.toNat = 124 by omega))
  subst this
  exact decide_eq_true (indexByte_pos 124 _ j (by simpa using h))
theorem Contains_spec (s : ByteArray) : Fun Tryd.prog 52 [.d (.str s), .d (.str ⟨#[124]⟩)] (.d (.bool (barB s))) := by
  refine Fun.calls (by kernel_rfl) rfl rfl (fun ι U L w => ⟨.bool _, Rel.bool _⟩) ?_
  intro ι U L w us hl hr v hv
  have h0 := hr 0 (by simp)
  have h1 := hr 1 (by simp)
  match us, hl with
  | [u0, u1], _ =>
  simp only [List.getElem_cons_zero, List.getElem_cons_succ, List.getD_cons_zero, List.getD_cons_succ] at h0 h1
  obtain ⟨rfl, -⟩ := h0.str_inv
  obtain ⟨rfl, -⟩ := h1.str_inv
  have hv' := hv.bool_inv
  subst hv'
  exact (Any.strings_Contains_one lay144 s 124 w).mono fun e w' ⟨he, hw⟩ => ⟨he, 0, hw⟩
def linesB (text : List ByteArray) : Bool := txB text && !text.any barB
def wsB (path to : ByteArray) (at_ : Int) (text : List ByteArray) (a b c d : Bool) : Bool := (a || decide (path = ⟨#[]⟩)) && (b || decide (to = ⟨#[]⟩)) && (c || decide (at_ = 0)) && (d || decide ((text.length : Int) = 0))
/-- What is to be done is ok. -/
def opB (kind : Int) (br who path to : ByteArray) (at_ : Int) (text : List ByteArray) : Bool := nmB br && nmB who && (
  if kind = 1 then wsB path to at_ text true false false true && pthB path && linesB text
  else if kind = 2 then wsB path to at_ text true false false false && pthB path
  else if kind = 3 then wsB path to at_ text true true false false && pthB path && pthB to
  else if kind = 4 ∨ kind = 5 then wsB path to at_ text false true false false && nmB to
  else if kind = 6 ∨ kind = 7 then wsB path to at_ text false false true false && withinB at_ 0 15
  else false)
theorem op_out {kind : Int} (hk : kind < 1 ∨ 7 < kind) (br who path to : ByteArray) (at_ : Int) (text : List ByteArray) : opB kind br who path to at_ text = false := by
  unfold opB
  rw [if_neg (by omega), if_neg (by omega), if_neg (by omega), if_neg (by omega), if_neg (by omega), Bool.and_false]
theorem pth_empty : pthB ⟨#[]⟩ = false := by rw [← pth_cut]; decide
theorem within_out {k : Int} (h : k < 1 ∨ 7 < k) : withinB k 1 7 = false := by
  unfold withinB
  rcases h with h | h
  · rw [decide_eq_false (by omega), Bool.false_and]
  · rw [decide_eq_false (show ¬ k ≤ 7 by omega), Bool.and_false]
attribute [local go_sem] List.size_toArray Int.toNat_zero Nat.sub_zero size_mk top_val eq_self datL X.dat u8min u8max i64min i64max stepT gdO aop ev lit litOk putF fzX_false putO upd app List.contains_nil List.elem_nil aBin aInt aStr aBool aLen lenTy aBuiltin aLoad aTake aTakeX aStore splice aSlice aBd look_cons look_nil lookC_cons lookC_nil by_s by_C start_s start_C X.cells X.cell List.all_cons List.all_nil Bool.and_self Bool.not_true Bool.not_false false_implies true_implies forall_const and_true true_and and_self implies_true not_false_eq_true Nat.zero_add Nat.add_zero List.getD_cons_zero List.getD_cons_succ List.map_cons List.map_nil Option.bind_some Option.map_some Option.map_none List.getElem?_cons_zero List.getElem?_cons_succ List.length_cons List.length_nil List.drop_zero List.drop_succ_cons List.take_succ_cons List.take_zero List.cons_append List.nil_append List.append_nil D.of List.length_map all_get_map Option.isSome_some and_false false_and Nat.lt_add_one Nat.zero_lt_succ decide_true decide_false aPart aSl2 Nat.lt_irrefl fzX litEs List.contains_cons List.elem_cons Bool.true_or Bool.or_true Bool.false_or Bool.or_false beq_self_eq_true
section
attribute [local go_sem] tsz9 tsz39 tel39 toNat_cast und9 und4 und5b tsz44 tfld44 tsz3' sS
theorem OpOk1_spec (s : ByteArray) : Fun Tryd.prog 51 [.d (.str s)] (.d (.bool (barB s))) := by
  refine Fun.of ?_ rfl rfl
  refine Spec.of (fn := Tryd.f51) Tryd.func51 rfl (by kernel_rfl) (rs := [.tmp 2]) rfl 1 (by simp [Tryd.f51]) rfl (by simp) ?_
  intro hreal
  rintro ⟨P, T, L0, w0, ι0, C0, U0⟩ hP hT hU
  subst hP hT
  refine st ?_
  all_goals first
  | fail_if_success with_reducible refine atR 0 ?_
  | (
    refine rg 0 [] [some 2] 1 ?_
    all_goals refine qP ?_
    all_goals refine qE ?_)
  all_goals first
  | fail_if_success with_reducible refine atR 1 ?_
  | (
    refine rg 1 [] [some 3, some 4, some 2] 3 ?_
    all_goals refine qP ?_
    all_goals (
      refine qL_cons ?_
      intro R hR
      refine sm ?_
      refine call_fun (Contains_spec s) [] ?_ (.inl rfl) ?_
      · exact ⟨.inl rfl, ⟨.inl rfl, trivial⟩⟩
      refine sm ?_
      all_goals (refine hR _ ?_; clear hR R))
    all_goals refine qP ?_
    all_goals refine qE ?_)
  all_goals first
  | fail_if_success with_reducible refine ret_fun (t := 2) ?_ ?_
  | (
    refine ret_fun (t := 2) ?_ (fun _ => rfl)
    first
    | exact cl
    | (
      try refine sm ?_
      all_goals (
       rfl)))

end
section
attribute [local go_sem] tsz9 tsz39 tel39 toNat_cast und9 und4 und5b tsz44 tfld44 tsz3' sS
theorem l19Lines_spec (text : List ByteArray) : Fun Tryd.prog 73 [.d (strs text)] (.d (.bool (linesB text))) := by
  refine Fun.of ?_ rfl rfl
  refine Spec.of (fn := Tryd.f73) Tryd.func73 rfl (by kernel_rfl) (rs := [.tmp 2]) rfl 1 (by simp [Tryd.f73]) rfl (by simp) ?_
  intro hreal
  rintro ⟨P, T, L0, w0, ι0, C0, U0⟩ hP hT hU
  subst hP hT
  refine st ?_
  have hlen : text.length ≤ 9223372036854775807 := by simpa using D.real_len (X.real_d (hreal (.d (strs text)) (by simp)) : D.real (.sl (text.map sS)))
  all_goals first
  | fail_if_success with_reducible refine atR 0 ?_
  | (
    refine rg 0 [] [some 2] 1 ?_
    all_goals refine qP ?_
    all_goals refine qE ?_)
  all_goals first
  | fail_if_success with_reducible refine atR 1 ?_
  | (
    refine rg 1 [] [some 3] 1 ?_
    all_goals refine qP ?_
    all_goals refine qE ?_)
  all_goals first
  | fail_if_success with_reducible refine AW.rounds (α := Nat) ?_ ?_ ?_ ?_ ?_ ?_ ?_ ?_
  | (
    refine AW.rounds (α := Nat) (fun i => i ≤ text.length ∧ ∀ j y, j < i → text[j]? = some y → barB y = false) (fun i => St.by [(0, .d (strs text)), (3, .d (.int .i64 i))] []) (fun i => text.length - i) 1 0 ?_ ?_ ?_
    · exact ⟨by omega, fun j y hj => by omega⟩
    · refine Vw.to [] _ _ (vU hU) ?_ ?_ (by simp [tauL])
      · refine vd (vw_d ?_ (trivial))
        · first
          | exact cl2
          | (
            refine sm2 ?_
            all_goals (
             rfl))
      · trivial
    · intro i hJ
      refine st ?_
      obtain ⟨hJ1, hJ2⟩ := hJ
      all_goals first
      | fail_if_success with_reducible refine atR 2 ?_
      | (
        refine rg 2 [] [some 5, some 6, some 7, some 8] 4 ?_
        all_goals iterate 4 refine qP ?_
        all_goals refine qE ?_)
      all_goals first
      | fail_if_success with_reducible refine atC 8 ?_
      | (
        refine cn 8 ?_ ?_ <;> intro hc8 <;> try (cases hc8; done)
        all_goals refine st ?_)
      all_goals first
      | fail_if_success with_reducible refine atR 4 ?_
      | (
        obtain ⟨x, hx⟩ : ∃ x, text[i]? = some x := ⟨_, List.getElem?_eq_getElem (by omega)⟩
        have hxr : x.size ≤ 9223372036854775807 := by
          have := D.real_sl (X.real_d (hreal (.d (strs text)) (by simp)) : D.real (.sl (text.map sS))) (sS x) (List.mem_map.2 ⟨x, List.mem_of_getElem? hx, rfl⟩) (.str x) (by simp [sS])
          exact D.real_str this
        all_goals first
        | fail_if_success with_reducible refine atR 4 ?_
        | (
          refine rg 4 [] [some 4] 1 ?_
          all_goals refine qP ?_
          all_goals refine qE ?_))
      all_goals first
      | fail_if_success with_reducible refine AW.rounds (α := Nat) ?_ ?_ ?_ ?_ ?_ ?_ ?_ ?_
      | (
        refine AW.rounds (α := Nat) (fun k => k ≤ x.size ∧ ∀ j, j < k → x.data[j]? ≠ some 124) (fun k => St.by [(0, .d (strs text)), (3, .d (.int .i64 i)), (4, .d (.int .i64 k))] []) (fun k => x.size - k) 1 0 ?_ ?_ ?_
        · exact ⟨by omega, fun j hj => by omega⟩
        · refine Vw.to [] _ _ (vU hU) ?_ ?_ (by simp [tauL])
          · refine vd (vd (vw_d ?_ (trivial)))
            · first
              | exact cl2
              | (
                refine sm2 ?_
                all_goals (
                 rfl))
          · trivial
        · intro k hJ
          refine st ?_
          obtain ⟨hK1, hK2⟩ := hJ
          all_goals first
          | fail_if_success with_reducible refine atR 5 ?_
          | (
            refine rg 5 [] [some 11, some 12, some 13, some 14, some 15, some 16, some 17] 7 ?_
            all_goals iterate 3 refine qP ?_
            all_goals (
              refine qL_cons ?_
              intro R hR
              refine sm ?_
              refine ⟨⟨by omega, by omega⟩, ?_⟩
              refine get_use hx ?_
              try refine sm ?_
              all_goals (refine hR _ ?_; clear hR R))
            all_goals iterate 3 refine qP ?_
            all_goals refine qE ?_)
          all_goals first
          | fail_if_success with_reducible refine atC 17 ?_
          | (
            refine cn 17 ?_ ?_ <;> intro hc17 <;> try (cases hc17; done)
            all_goals refine st ?_)
          all_goals first
          | fail_if_success with_reducible refine atR 7 ?_
          | (
            refine rg 7 [] [some 20, some 21, some 22, some 23, some 24, some 25, some 26] 7 ?_
            all_goals iterate 2 refine qP ?_
            all_goals (
              refine qL_cons ?_
              intro R hR
              refine sm ?_
              refine ⟨⟨by omega, by omega⟩, ?_⟩
              refine get_use hx ?_
              try refine sm ?_
              all_goals (refine hR _ ?_; clear hR R))
            all_goals iterate 2 refine qP ?_
            all_goals (
              refine qL_cons ?_
              intro R hR
              refine sm ?_
              refine ⟨⟨by omega, by omega⟩, ?_⟩
              intro c hc
              all_goals (refine hR _ ?_; clear hR R))
            all_goals refine qP ?_
            all_goals refine qE ?_)
          all_goals first
          | fail_if_success with_reducible refine atC 26 ?_
          | (
            refine cn 26 ?_ ?_ <;> intro hc26 <;> try (cases hc26; done)
            all_goals refine st ?_)
          all_goals first
          | fail_if_success with_reducible refine atR 8 ?_
          | (
            refine rg 8 [] [some 2] 1 ?_
            all_goals refine qP ?_
            all_goals refine qE ?_)
          all_goals first
          | fail_if_success with_reducible refine atR 6 ?_
          | (
            refine rg 6 [] [some 18, some 19, some 4] 3 ?_
            all_goals refine qP ?_
            all_goals (
              refine qL_cons ?_
              intro R hR
              refine sm ?_
              rw [wrap64 (by omega) (by omega)]
              all_goals (refine hR _ ?_; clear hR R))
            all_goals refine qP ?_
            all_goals refine qE ?_)
          all_goals first
          | fail_if_success with_reducible refine ⟨k + 1, ?_, ?_, ?_⟩
          | (
            refine ⟨k + 1, ?_, ?_, ?_⟩
            · refine ⟨by omega, fun j hj => ?_⟩
              by_cases hjk : j = k
              · subst hjk
                rw [hc]
                intro hh
                cases hh
                exact hc26 rfl
              · exact hK2 j (by omega)
            · omega
            · refine Vw.to [] _ _ (vU hU) ?_ ?_ (by simp [tauL])
              · refine vd (vd (vw_d ?_ (trivial)))
                · first
                  | exact cl2
                  | (
                    refine sm2 ?_
                    all_goals (
                     congr 1))
              · trivial)
          all_goals first
          | fail_if_success with_reducible refine atR 3 ?_
          | (
            refine rg 3 [] [some 9, some 10, some 3] 3 ?_
            all_goals refine qP ?_
            all_goals (
              refine qL_cons ?_
              intro R hR
              refine sm ?_
              rw [wrap64 (by omega) (by omega)]
              all_goals (refine hR _ ?_; clear hR R))
            all_goals refine qP ?_
            all_goals refine qE ?_)
          all_goals first
          | fail_if_success with_reducible refine ⟨i + 1, ?_, ?_, ?_⟩
          | (
            refine ⟨i + 1, ?_, ?_, ?_⟩
            · refine ⟨by omega, fun j y hj hy => ?_⟩
              by_cases hji : j = i
              · subst hji
                rw [hx] at hy
                cases hy
                exact bar_no (fun q hq => hK2 q (by omega))
              · exact hJ2 j y (by omega) hy
            · omega
            · refine Vw.to [] _ _ (vU hU) ?_ ?_ (by simp [tauL])
              · refine vd (vw_d ?_ (trivial))
                · first
                  | exact cl2
                  | (
                    refine sm2 ?_
                    all_goals (
                     congr 1))
              · trivial)
          all_goals first
          | fail_if_success with_reducible refine ret_fun (t := 2) ?_ ?_
          | (
            refine ret_fun (t := 2) ?_ (fun _ => rfl)
            first
            | exact cl
            | (
              try refine sm ?_
              all_goals (
               first
               | (congr 2; unfold linesB
                  have : text.any barB = true := List.any_eq_true.2 ⟨x, List.mem_of_getElem? hx, bar_yes hc (by assumption)⟩
                  rw [this]; simp; done)
               | (congr 2; unfold linesB
                  have : text.any barB = false := by
                    rw [List.any_eq_false]
                    intro y hy
                    obtain ⟨j, hj, rfl⟩ := List.mem_iff_getElem.1 hy
                    have := hJ2 j _ (by omega) (List.getElem?_eq_getElem hj)
                    simp [this]
                  rw [this]; simp; done)))))
      all_goals first
      | fail_if_success with_reducible refine atR 9 ?_
      | (
        refine rg 9 [] [some 27, some 28, some 2] 3 ?_
        all_goals refine qP ?_
        all_goals (
          refine qL_cons ?_
          intro R hR
          refine sm ?_
          refine call_fun (l1Ok_spec text) [] ?_ (.inl rfl) ?_
          · exact ⟨.inl rfl, trivial⟩
          refine sm ?_
          all_goals (refine hR _ ?_; clear hR R))
        all_goals refine qP ?_
        all_goals refine qE ?_)
      all_goals first
      | fail_if_success with_reducible refine ret_fun (t := 2) ?_ ?_
      | (
        refine ret_fun (t := 2) ?_ (fun _ => rfl)
        first
        | exact cl
        | (
          try refine sm ?_
          all_goals (
           first
           | (congr 2; unfold linesB
              have : text.any barB = true := List.any_eq_true.2 ⟨x, List.mem_of_getElem? hx, bar_yes hc (by assumption)⟩
              rw [this]; simp; done)
           | (congr 2; unfold linesB
              have : text.any barB = false := by
                rw [List.any_eq_false]
                intro y hy
                obtain ⟨j, hj, rfl⟩ := List.mem_iff_getElem.1 hy
                have := hJ2 j _ (by omega) (List.getElem?_eq_getElem hj)
                simp [this]
              rw [this]; simp; done)))))

end
section
attribute [local go_sem] tsz9 tsz39 tel39 toNat_cast und9 und4 und5b tsz44 tfld44 tsz3' sS
theorem l19Bare_spec (kind : Int) (br who path to : ByteArray) (at_ : Int) (text : List ByteArray) (a b c d : Bool) : Fun Tryd.prog 72 [.ag [.d (.int .i64 kind), .d (.str br), .d (.str who), .d (.str path), .d (.str to), .d (.int .i64 at_), .d (strs text)], .d (.bool a), .d (.bool b), .d (.bool c), .d (.bool d)] (.d (.bool (wsB path to at_ text a b c d))) := by
  refine Fun.of ?_ rfl rfl
  refine Spec.of (fn := Tryd.f72) Tryd.func72 rfl (by kernel_rfl) (rs := [.tmp 10]) rfl 1 (by simp [Tryd.f72]) rfl (by simp) ?_
  intro hreal
  rintro ⟨P, T, L0, w0, ι0, C0, U0⟩ hP hT hU
  subst hP hT
  refine st ?_
  all_goals first
  | fail_if_success with_reducible refine atR 0 ?_
  | (
    refine rg 0 [] [some 5, some 10] 2 ?_
    all_goals iterate 2 refine qP ?_
    all_goals refine qE ?_)
  all_goals first
  | fail_if_success with_reducible refine atR 1 ?_
  | (
    refine rg 1 [] [some 11, some 12, some 13, some 14, some 15, some 16, some 17, some 18, some 19, some 20, some 21, some 22, some 23, some 24, some 25, some 26, some 27, some 28, some 29, some 30, some 31, some 32, some 33, some 34, some 35, some 36, some 37, some 38, some 39, some 40, some 41, some 10] 32 ?_
    all_goals iterate 2 refine qP ?_
    all_goals first | refine qU 12 ?_ | (refine qS 12 ?_ ?_ <;> intro hg1_1 <;> try (cases hg1_1; done))
    all_goals iterate 5 refine qP ?_
    all_goals first | refine qU 17 ?_ | (refine qS 17 ?_ ?_ <;> intro hg1_6 <;> try (cases hg1_6; done))
    all_goals iterate 2 refine qP ?_
    all_goals first | refine qU 19 ?_ | (refine qS 19 ?_ ?_ <;> intro hg1_8 <;> try (cases hg1_8; done))
    all_goals iterate 6 refine qP ?_
    all_goals first | refine qU 25 ?_ | (refine qS 25 ?_ ?_ <;> intro hg1_14 <;> try (cases hg1_14; done))
    all_goals iterate 2 refine qP ?_
    all_goals first | refine qU 27 ?_ | (refine qS 27 ?_ ?_ <;> intro hg1_16 <;> try (cases hg1_16; done))
    all_goals iterate 6 refine qP ?_
    all_goals first | refine qU 33 ?_ | (refine qS 33 ?_ ?_ <;> intro hg1_22 <;> try (cases hg1_22; done))
    all_goals iterate 2 refine qP ?_
    all_goals first | refine qU 35 ?_ | (refine qS 35 ?_ ?_ <;> intro hg1_24 <;> try (cases hg1_24; done))
    all_goals iterate 7 refine qP ?_
    all_goals refine qE ?_)
  all_goals first
  | fail_if_success with_reducible refine ret_fun (t := 10) ?_ ?_
  | (
    refine ret_fun (t := 10) ?_ (fun _ => rfl)
    first
    | exact cl
    | (
      try refine sm ?_
      all_goals (
       (congr 2; simp only [wsB]; simp_all; done))))

end
end Go.Proofs.YtkbnkcdaiahoeaaDoor
namespace Go.Proofs.YtkbnkcdaiahoeaaDoor
open Go Go.RowKit Go.Shelf
set_option maxRecDepth 100000
set_option maxHeartbeats 4000000
set_option linter.unusedSimpArgs false
set_option linter.unusedVariables false
attribute [local go_sem] List.size_toArray Int.toNat_zero Nat.sub_zero size_mk top_val eq_self datL X.dat u8min u8max i64min i64max stepT gdO aop ev lit litOk putF fzX_false putO upd app List.contains_nil List.elem_nil aBin aInt aStr aBool aLen lenTy aBuiltin aLoad aTake aTakeX aStore splice aSlice aBd look_cons look_nil lookC_cons lookC_nil by_s by_C start_s start_C X.cells X.cell List.all_cons List.all_nil Bool.and_self Bool.not_true Bool.not_false false_implies true_implies forall_const and_true true_and and_self implies_true not_false_eq_true Nat.zero_add Nat.add_zero List.getD_cons_zero List.getD_cons_succ List.map_cons List.map_nil Option.bind_some Option.map_some Option.map_none List.getElem?_cons_zero List.getElem?_cons_succ List.length_cons List.length_nil List.drop_zero List.drop_succ_cons List.take_succ_cons List.take_zero List.cons_append List.nil_append List.append_nil D.of List.length_map all_get_map Option.isSome_some and_false false_and Nat.lt_add_one Nat.zero_lt_succ decide_true decide_false aPart aSl2 Nat.lt_irrefl fzX litEs List.contains_cons List.elem_cons Bool.true_or Bool.or_true Bool.false_or Bool.or_false beq_self_eq_true
section
attribute [local go_sem] tsz9 tsz39 tel39 toNat_cast und9 und4 und5b tsz44 tfld44 tsz3' sS
theorem implOpOk_1 (br who path to : ByteArray) (at_ : Int) (text : List ByteArray) (hp : path.size ≤ 1000000) (ht : to.size ≤ 1000000) : Fun Tryd.prog 22 [.ag [.d (.int .i64 1), .d (.str br), .d (.str who), .d (.str path), .d (.str to), .d (.int .i64 at_), .d (strs text)]] (.d (.bool (opB 1 br who path to at_ text))) := by
  refine Fun.of ?_ rfl rfl
  refine Spec.of (fn := Tryd.f22) Tryd.func22 rfl (by kernel_rfl) (rs := [.tmp 2]) rfl 1 (by simp [Tryd.f22]) rfl (by simp) ?_
  intro hreal
  rintro ⟨P, T, L0, w0, ι0, C0, U0⟩ hP hT hU
  subst hP hT
  refine st ?_
  have hw : withinB 1 1 7 = true := by decide
  all_goals first
  | fail_if_success with_reducible refine atR 0 ?_
  | (
    refine rg 0 [] [some 1, some 2] 2 ?_
    all_goals iterate 2 refine qP ?_
    all_goals refine qE ?_)
  all_goals first
  | fail_if_success with_reducible refine atR 1 ?_
  | (
    refine rg 1 [] [some 5, some 6, some 7, some 8, some 9, some 10, some 11, some 12, some 13, some 14, some 15, some 16, some 17, some 18, some 19, some 20] 16 ?_
    all_goals iterate 2 refine qP ?_
    all_goals (
      refine qL_cons ?_
      intro R hR
      refine sm ?_
      refine call_fun (within_spec 1 1 7) [] ?_ (.inl rfl) ?_
      · exact ⟨.inl rfl, ⟨.inl rfl, ⟨.inl rfl, trivial⟩⟩⟩
      refine sm ?_
      simp only [hw]
      all_goals (refine hR _ ?_; clear hR R))
    all_goals iterate 2 refine qP ?_
    all_goals first | refine qU 9 ?_ | (refine qS 9 ?_ ?_ <;> intro hg1_4 <;> try (cases hg1_4; done))
    all_goals iterate 2 refine qP ?_
    all_goals first
    | (
      refine qL_cons ?_
      intro R hR
      refine sm ?_
      refine call_fun (nameOk_spec br) [] ?_ (.inl rfl) ?_
      · exact ⟨.inl rfl, trivial⟩
      refine sm ?_
      refine hR _ ?_
      clear hR R)
    | refine qP ?_
    all_goals iterate 3 refine qP ?_
    all_goals first | refine qU 15 ?_ | (refine qS 15 ?_ ?_ <;> intro hg1_10 <;> try (cases hg1_10; done))
    all_goals iterate 2 refine qP ?_
    all_goals first
    | (
      refine qL_cons ?_
      intro R hR
      refine sm ?_
      refine call_fun (nameOk_spec who) [] ?_ (.inl rfl) ?_
      · exact ⟨.inl rfl, trivial⟩
      refine sm ?_
      refine hR _ ?_
      clear hR R)
    | refine qP ?_
    all_goals iterate 2 refine qP ?_
    all_goals refine qE ?_)
  all_goals first
  | fail_if_success with_reducible refine atC 20 ?_
  | (
    refine cn 20 ?_ ?_ <;> intro hc20 <;> try (cases hc20; done)
    all_goals refine st ?_)
  all_goals try (exfalso; omega)
  all_goals first
  | fail_if_success with_reducible refine atR 2 ?_
  | (
    refine rg 2 [] [some 2] 1 ?_
    all_goals refine qP ?_
    all_goals refine qE ?_)
  all_goals first
  | fail_if_success with_reducible refine atR 3 ?_
  | (
    refine rgD 3 [] [some 21, some 22, some 23, some 24, some 25, some 26, some 3, some 4] 8 9 ?_
    intro av hav
    have hf1 := freeD 1 hav
    all_goals refine qP ?_
    all_goals (
      refine qL_cons ?_
      intro R hR
      simp only [go_sem, reduceIte, reduceCtorEq, Nat.reduceAdd, Nat.reduceEqDiff, Nat.reduceLeDiff, Nat.reduceLT, Nat.reduceSub, Int.reduceLE, Int.reduceNeg, Int.reduceLT, hf1]
      all_goals (refine hR _ ?_; clear hR R))
    all_goals iterate 2 refine qP ?_
    all_goals (
      refine qL_cons ?_
      intro R hR
      simp only [go_sem, reduceIte, reduceCtorEq, Nat.reduceAdd, Nat.reduceEqDiff, Nat.reduceLeDiff, Nat.reduceLT, Nat.reduceSub, Int.reduceLE, Int.reduceNeg, Int.reduceLT, hf1]
      all_goals (refine hR _ ?_; clear hR R))
    all_goals iterate 3 refine qP ?_
    all_goals refine qE ?_
    all_goals clear hf1 hav av)
  all_goals first
  | fail_if_success with_reducible refine atR 4 ?_
  | (
    refine rg 4 [] [some 28, some 29, some 30, some 31, some 32, some 33, some 34, some 35, some 36, some 37, some 38, some 39, some 40, some 41, some 27] 15 ?_
    all_goals iterate 3 refine qP ?_
    all_goals (
      refine qL_cons ?_
      intro R hR
      refine sm ?_
      refine call_fun (PathOk_spec path hp) [] ?_ (.inl rfl) ?_
      · exact ⟨.inl rfl, trivial⟩
      refine sm ?_
      all_goals (refine hR _ ?_; clear hR R))
    all_goals iterate 2 refine qP ?_
    all_goals first | refine qU 33 ?_ | (refine qS 33 ?_ ?_ <;> intro hg4_5 <;> try (cases hg4_5; done))
    all_goals iterate 3 refine qP ?_
    all_goals first | refine qU 36 ?_ | (refine qS 36 ?_ ?_ <;> intro hg4_8 <;> try (cases hg4_8; done))
    all_goals iterate 6 refine qP ?_
    all_goals refine qE ?_)
  all_goals first
  | fail_if_success with_reducible refine atC 27 ?_
  | (
    refine cn 27 ?_ ?_ <;> intro hc27 <;> try (cases hc27; done)
    all_goals refine st ?_)
  all_goals try (exfalso; omega)
  all_goals first
  | fail_if_success with_reducible refine atR 5 ?_
  | (
    refine rg 5 [] [some 2] 1 ?_
    all_goals refine qP ?_
    all_goals refine qE ?_)
  all_goals first
  | fail_if_success with_reducible refine atR 6 ?_
  | (
    refine rg 6 [] [some 43, some 44, some 45, some 46, some 47, some 48, some 49, some 50, some 51, some 52, some 53, some 54, some 55, some 56, some 57, some 58, some 42] 17 ?_
    all_goals iterate 2 refine qP ?_
    all_goals first | refine qU 44 ?_ | (refine qS 44 ?_ ?_ <;> intro hg6_1 <;> try (cases hg6_1; done))
    all_goals iterate 2 refine qP ?_
    all_goals first
    | (
      refine qL_cons ?_
      intro R hR
      refine sm ?_
      refine call_fun (within_spec at_ 0 15) [] ?_ (.inl rfl) ?_
      · exact ⟨.inl rfl, ⟨.inl rfl, ⟨.inl rfl, trivial⟩⟩⟩
      refine sm ?_
      refine hR _ ?_
      clear hR R)
    | refine qP ?_
    all_goals iterate 3 refine qP ?_
    all_goals first | refine qU 50 ?_ | (refine qS 50 ?_ ?_ <;> intro hg6_7 <;> try (cases hg6_7; done))
    all_goals iterate 3 refine qP ?_
    all_goals first | refine qU 53 ?_ | (refine qS 53 ?_ ?_ <;> intro hg6_10 <;> try (cases hg6_10; done))
    all_goals iterate 6 refine qP ?_
    all_goals refine qE ?_)
  all_goals first
  | fail_if_success with_reducible refine atC 42 ?_
  | (
    refine cn 42 ?_ ?_ <;> intro hc42 <;> try (cases hc42; done)
    all_goals refine st ?_)
  all_goals try (exfalso; omega)
  all_goals first
  | fail_if_success with_reducible refine atR 7 ?_
  | (
    refine rg 7 [] [some 2] 1 ?_
    all_goals refine qP ?_
    all_goals refine qE ?_)
  all_goals first
  | fail_if_success with_reducible refine atR 8 ?_
  | (
    refine rg 8 [] [some 60, some 61, some 62, some 63, some 64, some 65, some 66, some 67, some 68, some 59] 10 ?_
    all_goals iterate 4 refine qP ?_
    all_goals first | refine qU 63 ?_ | (refine qS 63 ?_ ?_ <;> intro hg8_3 <;> try (cases hg8_3; done))
    all_goals iterate 6 refine qP ?_
    all_goals refine qE ?_)
  all_goals first
  | fail_if_success with_reducible refine atC 59 ?_
  | (
    refine cn 59 ?_ ?_ <;> intro hc59 <;> try (cases hc59; done)
    all_goals refine st ?_)
  all_goals try (exfalso; omega)
  all_goals first
  | fail_if_success with_reducible refine atR 9 ?_
  | (
    refine rg 9 [] [some 2] 1 ?_
    all_goals refine qP ?_
    all_goals refine qE ?_)
  all_goals first
  | fail_if_success with_reducible refine atR 10 ?_
  | (
    refine rg 10 [] [some 69, some 70] 2 ?_
    all_goals iterate 2 refine qP ?_
    all_goals refine qE ?_)
  all_goals first
  | fail_if_success with_reducible refine atR 11 ?_
  | (
    refine rg 11 [] [some 72, some 71] 2 ?_
    all_goals iterate 2 refine qP ?_
    all_goals refine qE ?_)
  all_goals first
  | fail_if_success with_reducible refine atC 71 ?_
  | (
    refine cn 71 ?_ ?_ <;> intro hc71 <;> try (cases hc71; done)
    all_goals refine st ?_)
  all_goals try (exfalso; omega)
  all_goals first
  | fail_if_success with_reducible refine atR 12 ?_
  | (
    refine rg 12 [] [some 73, some 74, some 75, some 76, some 77, some 78, some 79, some 80, some 81, some 82, some 83, some 84, some 85, some 86, some 2] 15 ?_
    all_goals iterate 4 refine qP ?_
    all_goals first | refine qU 76 ?_ | (refine qS 76 ?_ ?_ <;> intro hg12_3 <;> try (cases hg12_3; done))
    all_goals iterate 2 refine qP ?_
    all_goals first
    | (
      refine qL_cons ?_
      intro R hR
      refine sm ?_
      refine call_fun (TextOk_spec text) [] ?_ (.inl rfl) ?_
      · exact ⟨.inl rfl, trivial⟩
      refine sm ?_
      refine hR _ ?_
      clear hR R)
    | refine qP ?_
    all_goals iterate 2 refine qP ?_
    all_goals first | refine qU 81 ?_ | (refine qS 81 ?_ ?_ <;> intro hg12_8 <;> try (cases hg12_8; done))
    all_goals iterate 2 refine qP ?_
    all_goals first
    | (
      refine qL_cons ?_
      intro R hR
      refine sm ?_
      refine call_fun (ContainsFuncS_spec text 51 [] barB (fun _ => rfl) (fun _ _ => trivial) OpOk1_spec) [] ?_ (.inl rfl) ?_
      · exact ⟨.inl rfl, ⟨.inl rfl, trivial⟩⟩
      refine sm ?_
      refine hR _ ?_
      clear hR R)
    | refine qP ?_
    all_goals iterate 3 refine qP ?_
    all_goals refine qE ?_)
  all_goals first
  | fail_if_success with_reducible refine atR 13 ?_
  | (
    refine rg 13 [] [some 88, some 87] 2 ?_
    all_goals iterate 2 refine qP ?_
    all_goals refine qE ?_)
  all_goals first
  | fail_if_success with_reducible refine atC 87 ?_
  | (
    refine cn 87 ?_ ?_ <;> intro hc87 <;> try (cases hc87; done)
    all_goals refine st ?_)
  all_goals try (exfalso; omega)
  all_goals first
  | fail_if_success with_reducible refine atR 14 ?_
  | (
    refine rg 14 [] [some 89, some 90, some 91, some 2] 4 ?_
    all_goals iterate 2 refine qP ?_
    all_goals (
      refine qL_cons ?_
      intro R hR
      refine sm ?_
      refine call_fun (PathOk_spec to ht) [] ?_ (.inl rfl) ?_
      · exact ⟨.inl rfl, trivial⟩
      refine sm ?_
      all_goals (refine hR _ ?_; clear hR R))
    all_goals refine qP ?_
    all_goals refine qE ?_)
  all_goals first
  | fail_if_success with_reducible refine atR 15 ?_
  | (
    refine rg 15 [] [some 93, some 92] 2 ?_
    all_goals iterate 2 refine qP ?_
    all_goals refine qE ?_)
  all_goals first
  | fail_if_success with_reducible refine atC 92 ?_
  | (
    refine cn 92 ?_ ?_ <;> intro hc92 <;> try (cases hc92; done)
    all_goals refine st ?_)
  all_goals try (exfalso; omega)
  all_goals first
  | fail_if_success with_reducible refine atR 16 ?_
  | (
    refine rg 16 [] [some 94, some 92] 2 ?_
    all_goals iterate 2 refine qP ?_
    all_goals refine qE ?_)
  all_goals first
  | fail_if_success with_reducible refine atC 92 ?_
  | (
    refine cn 92 ?_ ?_ <;> intro hc92 <;> try (cases hc92; done)
    all_goals refine st ?_)
  all_goals try (exfalso; omega)
  all_goals first
  | fail_if_success with_reducible refine atR 17 ?_
  | (
    refine rg 17 [] [some 95, some 96, some 97, some 2] 4 ?_
    all_goals iterate 2 refine qP ?_
    all_goals (
      refine qL_cons ?_
      intro R hR
      refine sm ?_
      refine call_fun (nameOk_spec to) [] ?_ (.inl rfl) ?_
      · exact ⟨.inl rfl, trivial⟩
      refine sm ?_
      all_goals (refine hR _ ?_; clear hR R))
    all_goals refine qP ?_
    all_goals refine qE ?_)
  all_goals first
  | fail_if_success with_reducible refine atR 18 ?_
  | (
    refine rg 18 [] [some 98, some 99, some 100, some 2] 4 ?_
    all_goals iterate 4 refine qP ?_
    all_goals refine qE ?_)
  all_goals first
  | fail_if_success with_reducible refine ret_fun (t := 2) ?_ ?_
  | (
    refine ret_fun (t := 2) ?_ (fun _ => rfl)
    first
    | exact cl
    | (
      try refine sm ?_
      all_goals (
       first
       | (congr 2; have hln : ¬ ((text.length : Int) = 0) := (by omega); simp_all [opB, wsB, withinB, pth_empty]; done)
       | (congr 2; simp [opB, wsB, withinB] at *; simp_all; done)
       | (congr 2; simp_all [opB, wsB, withinB, pth_empty]; done)
       | (congr 2; simp_all [opB, wsB, withinB, pth_empty, linesB]; done)
       | (congr 2; simp_all [opB, wsB, withinB, pth_empty, linesB]; omega)
       | (congr 2; simp only [opB, wsB, linesB]; by_cases hpe : path = ⟨#[]⟩ <;> simp_all [pth_empty]; done)
       | trace_state)))

end
section
attribute [local go_sem] tsz9 tsz39 tel39 toNat_cast und9 und4 und5b tsz44 tfld44 tsz3' sS
theorem l19Ok_1 (br who path to : ByteArray) (at_ : Int) (text : List ByteArray) (hp : path.size ≤ 1000000) (ht : to.size ≤ 1000000) : Fun Tryd.prog 47 [.ag [.d (.int .i64 1), .d (.str br), .d (.str who), .d (.str path), .d (.str to), .d (.int .i64 at_), .d (strs text)]] (.d (.bool (opB 1 br who path to at_ text))) := by
  refine Fun.of ?_ rfl rfl
  refine Spec.of (fn := Tryd.f47) Tryd.func47 rfl (by kernel_rfl) (rs := [.tmp 2]) rfl 1 (by simp [Tryd.f47]) rfl (by simp) ?_
  intro hreal
  rintro ⟨P, T, L0, w0, ι0, C0, U0⟩ hP hT hU
  subst hP hT
  refine st ?_
  all_goals first
  | fail_if_success with_reducible refine atR 0 ?_
  | (
    refine rg 0 [] [some 1, some 2] 2 ?_
    all_goals iterate 2 refine qP ?_
    all_goals refine qE ?_)
  all_goals first
  | fail_if_success with_reducible refine atR 1 ?_
  | (
    refine rg 1 [] [some 3, some 4, some 5, some 6, some 7, some 8, some 9, some 10, some 11, some 12] 10 ?_
    all_goals iterate 2 refine qP ?_
    all_goals (
      refine qL_cons ?_
      intro R hR
      refine sm ?_
      refine call_fun (l4Name_spec br) [] ?_ (.inl rfl) ?_
      · exact ⟨.inl rfl, trivial⟩
      refine sm ?_
      all_goals (refine hR _ ?_; clear hR R))
    all_goals iterate 2 refine qP ?_
    all_goals first | refine qU 7 ?_ | (refine qS 7 ?_ ?_ <;> intro hg1_4 <;> try (cases hg1_4; done))
    all_goals iterate 2 refine qP ?_
    all_goals first
    | (
      refine qL_cons ?_
      intro R hR
      refine sm ?_
      refine call_fun (l4Name_spec who) [] ?_ (.inl rfl) ?_
      · exact ⟨.inl rfl, trivial⟩
      refine sm ?_
      refine hR _ ?_
      clear hR R)
    | refine qP ?_
    all_goals iterate 2 refine qP ?_
    all_goals refine qE ?_)
  all_goals first
  | fail_if_success with_reducible refine atC 12 ?_
  | (
    refine cn 12 ?_ ?_ <;> intro hc12 <;> try (cases hc12; done)
    all_goals refine st ?_)
  all_goals try (exfalso; omega)
  all_goals first
  | fail_if_success with_reducible refine atR 2 ?_
  | (
    refine rg 2 [] [some 2] 1 ?_
    all_goals refine qP ?_
    all_goals refine qE ?_)
  all_goals first
  | fail_if_success with_reducible refine atR 3 ?_
  | (
    refine rg 3 [] [some 13, some 14] 2 ?_
    all_goals iterate 2 refine qP ?_
    all_goals refine qE ?_)
  all_goals first
  | fail_if_success with_reducible refine atR 4 ?_
  | (
    refine rg 4 [] [some 16, some 15] 2 ?_
    all_goals iterate 2 refine qP ?_
    all_goals refine qE ?_)
  all_goals first
  | fail_if_success with_reducible refine atC 15 ?_
  | (
    refine cn 15 ?_ ?_ <;> intro hc15 <;> try (cases hc15; done)
    all_goals refine st ?_)
  all_goals try (exfalso; omega)
  all_goals first
  | fail_if_success with_reducible refine atR 5 ?_
  | (
    refine rg 5 [] [some 17, some 18, some 19, some 20, some 21, some 22, some 23, some 24, some 25, some 26, some 27, some 28, some 2] 13 ?_
    all_goals refine qP ?_
    all_goals (
      refine qL_cons ?_
      intro R hR
      refine sm ?_
      refine call_fun (l19Bare_spec 1 br who path to at_ text true false false true) [] ?_ (.inl rfl) ?_
      · exact ⟨.inl rfl, ⟨.inl rfl, ⟨.inl rfl, ⟨.inl rfl, ⟨.inl rfl, trivial⟩⟩⟩⟩⟩
      refine sm ?_
      all_goals (refine hR _ ?_; clear hR R))
    all_goals refine qP ?_
    all_goals first | refine qU 19 ?_ | (refine qS 19 ?_ ?_ <;> intro hg5_2 <;> try (cases hg5_2; done))
    all_goals iterate 2 refine qP ?_
    all_goals first
    | (
      refine qL_cons ?_
      intro R hR
      refine sm ?_
      refine call_fun (l4Path_spec path hp) [] ?_ (.inl rfl) ?_
      · exact ⟨.inl rfl, trivial⟩
      refine sm ?_
      refine hR _ ?_
      clear hR R)
    | refine qP ?_
    all_goals iterate 2 refine qP ?_
    all_goals first | refine qU 24 ?_ | (refine qS 24 ?_ ?_ <;> intro hg5_7 <;> try (cases hg5_7; done))
    all_goals iterate 2 refine qP ?_
    all_goals first
    | (
      refine qL_cons ?_
      intro R hR
      refine sm ?_
      refine call_fun (l19Lines_spec text) [] ?_ (.inl rfl) ?_
      · exact ⟨.inl rfl, trivial⟩
      refine sm ?_
      refine hR _ ?_
      clear hR R)
    | refine qP ?_
    all_goals iterate 2 refine qP ?_
    all_goals refine qE ?_)
  all_goals first
  | fail_if_success with_reducible refine atR 6 ?_
  | (
    refine rg 6 [] [some 30, some 29] 2 ?_
    all_goals iterate 2 refine qP ?_
    all_goals refine qE ?_)
  all_goals first
  | fail_if_success with_reducible refine atC 29 ?_
  | (
    refine cn 29 ?_ ?_ <;> intro hc29 <;> try (cases hc29; done)
    all_goals refine st ?_)
  all_goals try (exfalso; omega)
  all_goals first
  | fail_if_success with_reducible refine atR 7 ?_
  | (
    refine rg 7 [] [some 31, some 32, some 33, some 34, some 35, some 36, some 37, some 2] 8 ?_
    all_goals refine qP ?_
    all_goals (
      refine qL_cons ?_
      intro R hR
      refine sm ?_
      refine call_fun (l19Bare_spec 1 br who path to at_ text true false false false) [] ?_ (.inl rfl) ?_
      · exact ⟨.inl rfl, ⟨.inl rfl, ⟨.inl rfl, ⟨.inl rfl, ⟨.inl rfl, trivial⟩⟩⟩⟩⟩
      refine sm ?_
      all_goals (refine hR _ ?_; clear hR R))
    all_goals refine qP ?_
    all_goals first | refine qU 33 ?_ | (refine qS 33 ?_ ?_ <;> intro hg7_2 <;> try (cases hg7_2; done))
    all_goals iterate 2 refine qP ?_
    all_goals first
    | (
      refine qL_cons ?_
      intro R hR
      refine sm ?_
      refine call_fun (l4Path_spec path hp) [] ?_ (.inl rfl) ?_
      · exact ⟨.inl rfl, trivial⟩
      refine sm ?_
      refine hR _ ?_
      clear hR R)
    | refine qP ?_
    all_goals iterate 2 refine qP ?_
    all_goals refine qE ?_)
  all_goals first
  | fail_if_success with_reducible refine atR 8 ?_
  | (
    refine rg 8 [] [some 39, some 38] 2 ?_
    all_goals iterate 2 refine qP ?_
    all_goals refine qE ?_)
  all_goals first
  | fail_if_success with_reducible refine atC 38 ?_
  | (
    refine cn 38 ?_ ?_ <;> intro hc38 <;> try (cases hc38; done)
    all_goals refine st ?_)
  all_goals try (exfalso; omega)
  all_goals first
  | fail_if_success with_reducible refine atR 9 ?_
  | (
    refine rg 9 [] [some 40, some 41, some 42, some 43, some 44, some 45, some 46, some 47, some 48, some 49, some 50, some 51, some 2] 13 ?_
    all_goals refine qP ?_
    all_goals (
      refine qL_cons ?_
      intro R hR
      refine sm ?_
      refine call_fun (l19Bare_spec 1 br who path to at_ text true true false false) [] ?_ (.inl rfl) ?_
      · exact ⟨.inl rfl, ⟨.inl rfl, ⟨.inl rfl, ⟨.inl rfl, ⟨.inl rfl, trivial⟩⟩⟩⟩⟩
      refine sm ?_
      all_goals (refine hR _ ?_; clear hR R))
    all_goals refine qP ?_
    all_goals first | refine qU 42 ?_ | (refine qS 42 ?_ ?_ <;> intro hg9_2 <;> try (cases hg9_2; done))
    all_goals iterate 2 refine qP ?_
    all_goals first
    | (
      refine qL_cons ?_
      intro R hR
      refine sm ?_
      refine call_fun (l4Path_spec path hp) [] ?_ (.inl rfl) ?_
      · exact ⟨.inl rfl, trivial⟩
      refine sm ?_
      refine hR _ ?_
      clear hR R)
    | refine qP ?_
    all_goals iterate 2 refine qP ?_
    all_goals first | refine qU 47 ?_ | (refine qS 47 ?_ ?_ <;> intro hg9_7 <;> try (cases hg9_7; done))
    all_goals iterate 2 refine qP ?_
    all_goals first
    | (
      refine qL_cons ?_
      intro R hR
      refine sm ?_
      refine call_fun (l4Path_spec to ht) [] ?_ (.inl rfl) ?_
      · exact ⟨.inl rfl, trivial⟩
      refine sm ?_
      refine hR _ ?_
      clear hR R)
    | refine qP ?_
    all_goals iterate 2 refine qP ?_
    all_goals refine qE ?_)
  all_goals first
  | fail_if_success with_reducible refine atR 10 ?_
  | (
    refine rg 10 [] [some 53, some 52] 2 ?_
    all_goals iterate 2 refine qP ?_
    all_goals refine qE ?_)
  all_goals first
  | fail_if_success with_reducible refine atC 52 ?_
  | (
    refine cn 52 ?_ ?_ <;> intro hc52 <;> try (cases hc52; done)
    all_goals refine st ?_)
  all_goals try (exfalso; omega)
  all_goals first
  | fail_if_success with_reducible refine atR 11 ?_
  | (
    refine rg 11 [] [some 54, some 52] 2 ?_
    all_goals iterate 2 refine qP ?_
    all_goals refine qE ?_)
  all_goals first
  | fail_if_success with_reducible refine atC 52 ?_
  | (
    refine cn 52 ?_ ?_ <;> intro hc52 <;> try (cases hc52; done)
    all_goals refine st ?_)
  all_goals try (exfalso; omega)
  all_goals first
  | fail_if_success with_reducible refine atR 12 ?_
  | (
    refine rg 12 [] [some 55, some 56, some 57, some 58, some 59, some 60, some 61, some 2] 8 ?_
    all_goals refine qP ?_
    all_goals (
      refine qL_cons ?_
      intro R hR
      refine sm ?_
      refine call_fun (l19Bare_spec 1 br who path to at_ text false true false false) [] ?_ (.inl rfl) ?_
      · exact ⟨.inl rfl, ⟨.inl rfl, ⟨.inl rfl, ⟨.inl rfl, ⟨.inl rfl, trivial⟩⟩⟩⟩⟩
      refine sm ?_
      all_goals (refine hR _ ?_; clear hR R))
    all_goals refine qP ?_
    all_goals first | refine qU 57 ?_ | (refine qS 57 ?_ ?_ <;> intro hg12_2 <;> try (cases hg12_2; done))
    all_goals iterate 2 refine qP ?_
    all_goals first
    | (
      refine qL_cons ?_
      intro R hR
      refine sm ?_
      refine call_fun (l4Name_spec to) [] ?_ (.inl rfl) ?_
      · exact ⟨.inl rfl, trivial⟩
      refine sm ?_
      refine hR _ ?_
      clear hR R)
    | refine qP ?_
    all_goals iterate 2 refine qP ?_
    all_goals refine qE ?_)
  all_goals first
  | fail_if_success with_reducible refine atR 13 ?_
  | (
    refine rg 13 [] [some 63, some 62] 2 ?_
    all_goals iterate 2 refine qP ?_
    all_goals refine qE ?_)
  all_goals first
  | fail_if_success with_reducible refine atC 62 ?_
  | (
    refine cn 62 ?_ ?_ <;> intro hc62 <;> try (cases hc62; done)
    all_goals refine st ?_)
  all_goals try (exfalso; omega)
  all_goals first
  | fail_if_success with_reducible refine atR 14 ?_
  | (
    refine rg 14 [] [some 64, some 62] 2 ?_
    all_goals iterate 2 refine qP ?_
    all_goals refine qE ?_)
  all_goals first
  | fail_if_success with_reducible refine atC 62 ?_
  | (
    refine cn 62 ?_ ?_ <;> intro hc62 <;> try (cases hc62; done)
    all_goals refine st ?_)
  all_goals try (exfalso; omega)
  all_goals first
  | fail_if_success with_reducible refine atR 15 ?_
  | (
    refine rg 15 [] [some 65, some 66, some 67, some 68, some 69, some 70, some 71, some 2] 8 ?_
    all_goals refine qP ?_
    all_goals (
      refine qL_cons ?_
      intro R hR
      refine sm ?_
      refine call_fun (l19Bare_spec 1 br who path to at_ text false false true false) [] ?_ (.inl rfl) ?_
      · exact ⟨.inl rfl, ⟨.inl rfl, ⟨.inl rfl, ⟨.inl rfl, ⟨.inl rfl, trivial⟩⟩⟩⟩⟩
      refine sm ?_
      all_goals (refine hR _ ?_; clear hR R))
    all_goals refine qP ?_
    all_goals first | refine qU 67 ?_ | (refine qS 67 ?_ ?_ <;> intro hg15_2 <;> try (cases hg15_2; done))
    all_goals iterate 2 refine qP ?_
    all_goals first
    | (
      refine qL_cons ?_
      intro R hR
      refine sm ?_
      refine call_fun (l1In_spec at_ 0 15) [] ?_ (.inl rfl) ?_
      · exact ⟨.inl rfl, ⟨.inl rfl, ⟨.inl rfl, trivial⟩⟩⟩
      refine sm ?_
      refine hR _ ?_
      clear hR R)
    | refine qP ?_
    all_goals iterate 2 refine qP ?_
    all_goals refine qE ?_)
  all_goals first
  | fail_if_success with_reducible refine atR 16 ?_
  | (
    refine rg 16 [] [some 2] 1 ?_
    all_goals refine qP ?_
    all_goals refine qE ?_)
  all_goals first
  | fail_if_success with_reducible refine ret_fun (t := 2) ?_ ?_
  | (
    refine ret_fun (t := 2) ?_ (fun _ => rfl)
    first
    | exact cl
    | (
      try refine sm ?_
      all_goals (
       first
       | (congr 2; have hln : ¬ ((text.length : Int) = 0) := (by omega); simp_all [opB, wsB, withinB, pth_empty]; done)
       | (congr 2; simp [opB, wsB, withinB] at *; simp_all; done)
       | (congr 2; simp_all [opB, wsB, withinB, pth_empty]; done)
       | (congr 2; simp_all [opB, wsB, withinB, pth_empty, linesB]; done)
       | (congr 2; simp_all [opB, wsB, withinB, pth_empty, linesB]; omega)
       | (congr 2; simp only [opB, wsB, linesB]; by_cases hpe : path = ⟨#[]⟩ <;> simp_all [pth_empty]; done)
       | trace_state)))

end
end Go.Proofs.YtkbnkcdaiahoeaaDoor
namespace Go.Proofs.YtkbnkcdaiahoeaaDoor
open Go Go.RowKit Go.Shelf
set_option maxRecDepth 100000
set_option maxHeartbeats 4000000
set_option linter.unusedSimpArgs false
set_option linter.unusedVariables false
attribute [local go_sem] List.size_toArray Int.toNat_zero Nat.sub_zero size_mk top_val eq_self datL X.dat u8min u8max i64min i64max stepT gdO aop ev lit litOk putF fzX_false putO upd app List.contains_nil List.elem_nil aBin aInt aStr aBool aLen lenTy aBuiltin aLoad aTake aTakeX aStore splice aSlice aBd look_cons look_nil lookC_cons lookC_nil by_s by_C start_s start_C X.cells X.cell List.all_cons List.all_nil Bool.and_self Bool.not_true Bool.not_false false_implies true_implies forall_const and_true true_and and_self implies_true not_false_eq_true Nat.zero_add Nat.add_zero List.getD_cons_zero List.getD_cons_succ List.map_cons List.map_nil Option.bind_some Option.map_some Option.map_none List.getElem?_cons_zero List.getElem?_cons_succ List.length_cons List.length_nil List.drop_zero List.drop_succ_cons List.take_succ_cons List.take_zero List.cons_append List.nil_append List.append_nil D.of List.length_map all_get_map Option.isSome_some and_false false_and Nat.lt_add_one Nat.zero_lt_succ decide_true decide_false aPart aSl2 Nat.lt_irrefl fzX litEs List.contains_cons List.elem_cons Bool.true_or Bool.or_true Bool.false_or Bool.or_false beq_self_eq_true
section
attribute [local go_sem] tsz9 tsz39 tel39 toNat_cast und9 und4 und5b tsz44 tfld44 tsz3' sS
theorem implOpOk_2 (br who path to : ByteArray) (at_ : Int) (text : List ByteArray) (hp : path.size ≤ 1000000) (ht : to.size ≤ 1000000) : Fun Tryd.prog 22 [.ag [.d (.int .i64 2), .d (.str br), .d (.str who), .d (.str path), .d (.str to), .d (.int .i64 at_), .d (strs text)]] (.d (.bool (opB 2 br who path to at_ text))) := by
  refine Fun.of ?_ rfl rfl
  refine Spec.of (fn := Tryd.f22) Tryd.func22 rfl (by kernel_rfl) (rs := [.tmp 2]) rfl 1 (by simp [Tryd.f22]) rfl (by simp) ?_
  intro hreal
  rintro ⟨P, T, L0, w0, ι0, C0, U0⟩ hP hT hU
  subst hP hT
  refine st ?_
  have hw : withinB 2 1 7 = true := by decide
  all_goals first
  | fail_if_success with_reducible refine atR 0 ?_
  | (
    refine rg 0 [] [some 1, some 2] 2 ?_
    all_goals iterate 2 refine qP ?_
    all_goals refine qE ?_)
  all_goals first
  | fail_if_success with_reducible refine atR 1 ?_
  | (
    refine rg 1 [] [some 5, some 6, some 7, some 8, some 9, some 10, some 11, some 12, some 13, some 14, some 15, some 16, some 17, some 18, some 19, some 20] 16 ?_
    all_goals iterate 2 refine qP ?_
    all_goals (
      refine qL_cons ?_
      intro R hR
      refine sm ?_
      refine call_fun (within_spec 2 1 7) [] ?_ (.inl rfl) ?_
      · exact ⟨.inl rfl, ⟨.inl rfl, ⟨.inl rfl, trivial⟩⟩⟩
      refine sm ?_
      simp only [hw]
      all_goals (refine hR _ ?_; clear hR R))
    all_goals iterate 2 refine qP ?_
    all_goals first | refine qU 9 ?_ | (refine qS 9 ?_ ?_ <;> intro hg1_4 <;> try (cases hg1_4; done))
    all_goals iterate 2 refine qP ?_
    all_goals first
    | (
      refine qL_cons ?_
      intro R hR
      refine sm ?_
      refine call_fun (nameOk_spec br) [] ?_ (.inl rfl) ?_
      · exact ⟨.inl rfl, trivial⟩
      refine sm ?_
      refine hR _ ?_
      clear hR R)
    | refine qP ?_
    all_goals iterate 3 refine qP ?_
    all_goals first | refine qU 15 ?_ | (refine qS 15 ?_ ?_ <;> intro hg1_10 <;> try (cases hg1_10; done))
    all_goals iterate 2 refine qP ?_
    all_goals first
    | (
      refine qL_cons ?_
      intro R hR
      refine sm ?_
      refine call_fun (nameOk_spec who) [] ?_ (.inl rfl) ?_
      · exact ⟨.inl rfl, trivial⟩
      refine sm ?_
      refine hR _ ?_
      clear hR R)
    | refine qP ?_
    all_goals iterate 2 refine qP ?_
    all_goals refine qE ?_)
  all_goals first
  | fail_if_success with_reducible refine atC 20 ?_
  | (
    refine cn 20 ?_ ?_ <;> intro hc20 <;> try (cases hc20; done)
    all_goals refine st ?_)
  all_goals try (exfalso; omega)
  all_goals first
  | fail_if_success with_reducible refine atR 2 ?_
  | (
    refine rg 2 [] [some 2] 1 ?_
    all_goals refine qP ?_
    all_goals refine qE ?_)
  all_goals first
  | fail_if_success with_reducible refine atR 3 ?_
  | (
    refine rgD 3 [] [some 21, some 22, some 23, some 24, some 25, some 26, some 3, some 4] 8 9 ?_
    intro av hav
    have hf1 := freeD 1 hav
    all_goals refine qP ?_
    all_goals (
      refine qL_cons ?_
      intro R hR
      simp only [go_sem, reduceIte, reduceCtorEq, Nat.reduceAdd, Nat.reduceEqDiff, Nat.reduceLeDiff, Nat.reduceLT, Nat.reduceSub, Int.reduceLE, Int.reduceNeg, Int.reduceLT, hf1]
      all_goals (refine hR _ ?_; clear hR R))
    all_goals iterate 2 refine qP ?_
    all_goals (
      refine qL_cons ?_
      intro R hR
      simp only [go_sem, reduceIte, reduceCtorEq, Nat.reduceAdd, Nat.reduceEqDiff, Nat.reduceLeDiff, Nat.reduceLT, Nat.reduceSub, Int.reduceLE, Int.reduceNeg, Int.reduceLT, hf1]
      all_goals (refine hR _ ?_; clear hR R))
    all_goals iterate 3 refine qP ?_
    all_goals refine qE ?_
    all_goals clear hf1 hav av)
  all_goals first
  | fail_if_success with_reducible refine atR 4 ?_
  | (
    refine rg 4 [] [some 28, some 29, some 30, some 31, some 32, some 33, some 34, some 35, some 36, some 37, some 38, some 39, some 40, some 41, some 27] 15 ?_
    all_goals iterate 3 refine qP ?_
    all_goals (
      refine qL_cons ?_
      intro R hR
      refine sm ?_
      refine call_fun (PathOk_spec path hp) [] ?_ (.inl rfl) ?_
      · exact ⟨.inl rfl, trivial⟩
      refine sm ?_
      all_goals (refine hR _ ?_; clear hR R))
    all_goals iterate 2 refine qP ?_
    all_goals first | refine qU 33 ?_ | (refine qS 33 ?_ ?_ <;> intro hg4_5 <;> try (cases hg4_5; done))
    all_goals iterate 3 refine qP ?_
    all_goals first | refine qU 36 ?_ | (refine qS 36 ?_ ?_ <;> intro hg4_8 <;> try (cases hg4_8; done))
    all_goals iterate 6 refine qP ?_
    all_goals refine qE ?_)
  all_goals first
  | fail_if_success with_reducible refine atC 27 ?_
  | (
    refine cn 27 ?_ ?_ <;> intro hc27 <;> try (cases hc27; done)
    all_goals refine st ?_)
  all_goals try (exfalso; omega)
  all_goals first
  | fail_if_success with_reducible refine atR 5 ?_
  | (
    refine rg 5 [] [some 2] 1 ?_
    all_goals refine qP ?_
    all_goals refine qE ?_)
  all_goals first
  | fail_if_success with_reducible refine atR 6 ?_
  | (
    refine rg 6 [] [some 43, some 44, some 45, some 46, some 47, some 48, some 49, some 50, some 51, some 52, some 53, some 54, some 55, some 56, some 57, some 58, some 42] 17 ?_
    all_goals iterate 2 refine qP ?_
    all_goals first | refine qU 44 ?_ | (refine qS 44 ?_ ?_ <;> intro hg6_1 <;> try (cases hg6_1; done))
    all_goals iterate 2 refine qP ?_
    all_goals first
    | (
      refine qL_cons ?_
      intro R hR
      refine sm ?_
      refine call_fun (within_spec at_ 0 15) [] ?_ (.inl rfl) ?_
      · exact ⟨.inl rfl, ⟨.inl rfl, ⟨.inl rfl, trivial⟩⟩⟩
      refine sm ?_
      refine hR _ ?_
      clear hR R)
    | refine qP ?_
    all_goals iterate 3 refine qP ?_
    all_goals first | refine qU 50 ?_ | (refine qS 50 ?_ ?_ <;> intro hg6_7 <;> try (cases hg6_7; done))
    all_goals iterate 3 refine qP ?_
    all_goals first | refine qU 53 ?_ | (refine qS 53 ?_ ?_ <;> intro hg6_10 <;> try (cases hg6_10; done))
    all_goals iterate 6 refine qP ?_
    all_goals refine qE ?_)
  all_goals first
  | fail_if_success with_reducible refine atC 42 ?_
  | (
    refine cn 42 ?_ ?_ <;> intro hc42 <;> try (cases hc42; done)
    all_goals refine st ?_)
  all_goals try (exfalso; omega)
  all_goals first
  | fail_if_success with_reducible refine atR 7 ?_
  | (
    refine rg 7 [] [some 2] 1 ?_
    all_goals refine qP ?_
    all_goals refine qE ?_)
  all_goals first
  | fail_if_success with_reducible refine atR 8 ?_
  | (
    refine rg 8 [] [some 60, some 61, some 62, some 63, some 64, some 65, some 66, some 67, some 68, some 59] 10 ?_
    all_goals iterate 4 refine qP ?_
    all_goals first | refine qU 63 ?_ | (refine qS 63 ?_ ?_ <;> intro hg8_3 <;> try (cases hg8_3; done))
    all_goals iterate 6 refine qP ?_
    all_goals refine qE ?_)
  all_goals first
  | fail_if_success with_reducible refine atC 59 ?_
  | (
    refine cn 59 ?_ ?_ <;> intro hc59 <;> try (cases hc59; done)
    all_goals refine st ?_)
  all_goals try (exfalso; omega)
  all_goals first
  | fail_if_success with_reducible refine atR 9 ?_
  | (
    refine rg 9 [] [some 2] 1 ?_
    all_goals refine qP ?_
    all_goals refine qE ?_)
  all_goals first
  | fail_if_success with_reducible refine atR 10 ?_
  | (
    refine rg 10 [] [some 69, some 70] 2 ?_
    all_goals iterate 2 refine qP ?_
    all_goals refine qE ?_)
  all_goals first
  | fail_if_success with_reducible refine atR 11 ?_
  | (
    refine rg 11 [] [some 72, some 71] 2 ?_
    all_goals iterate 2 refine qP ?_
    all_goals refine qE ?_)
  all_goals first
  | fail_if_success with_reducible refine atC 71 ?_
  | (
    refine cn 71 ?_ ?_ <;> intro hc71 <;> try (cases hc71; done)
    all_goals refine st ?_)
  all_goals try (exfalso; omega)
  all_goals first
  | fail_if_success with_reducible refine atR 12 ?_
  | (
    refine rg 12 [] [some 73, some 74, some 75, some 76, some 77, some 78, some 79, some 80, some 81, some 82, some 83, some 84, some 85, some 86, some 2] 15 ?_
    all_goals iterate 4 refine qP ?_
    all_goals first | refine qU 76 ?_ | (refine qS 76 ?_ ?_ <;> intro hg12_3 <;> try (cases hg12_3; done))
    all_goals iterate 2 refine qP ?_
    all_goals first
    | (
      refine qL_cons ?_
      intro R hR
      refine sm ?_
      refine call_fun (TextOk_spec text) [] ?_ (.inl rfl) ?_
      · exact ⟨.inl rfl, trivial⟩
      refine sm ?_
      refine hR _ ?_
      clear hR R)
    | refine qP ?_
    all_goals iterate 2 refine qP ?_
    all_goals first | refine qU 81 ?_ | (refine qS 81 ?_ ?_ <;> intro hg12_8 <;> try (cases hg12_8; done))
    all_goals iterate 2 refine qP ?_
    all_goals first
    | (
      refine qL_cons ?_
      intro R hR
      refine sm ?_
      refine call_fun (ContainsFuncS_spec text 51 [] barB (fun _ => rfl) (fun _ _ => trivial) OpOk1_spec) [] ?_ (.inl rfl) ?_
      · exact ⟨.inl rfl, ⟨.inl rfl, trivial⟩⟩
      refine sm ?_
      refine hR _ ?_
      clear hR R)
    | refine qP ?_
    all_goals iterate 3 refine qP ?_
    all_goals refine qE ?_)
  all_goals first
  | fail_if_success with_reducible refine atR 13 ?_
  | (
    refine rg 13 [] [some 88, some 87] 2 ?_
    all_goals iterate 2 refine qP ?_
    all_goals refine qE ?_)
  all_goals first
  | fail_if_success with_reducible refine atC 87 ?_
  | (
    refine cn 87 ?_ ?_ <;> intro hc87 <;> try (cases hc87; done)
    all_goals refine st ?_)
  all_goals try (exfalso; omega)
  all_goals first
  | fail_if_success with_reducible refine atR 14 ?_
  | (
    refine rg 14 [] [some 89, some 90, some 91, some 2] 4 ?_
    all_goals iterate 2 refine qP ?_
    all_goals (
      refine qL_cons ?_
      intro R hR
      refine sm ?_
      refine call_fun (PathOk_spec to ht) [] ?_ (.inl rfl) ?_
      · exact ⟨.inl rfl, trivial⟩
      refine sm ?_
      all_goals (refine hR _ ?_; clear hR R))
    all_goals refine qP ?_
    all_goals refine qE ?_)
  all_goals first
  | fail_if_success with_reducible refine atR 15 ?_
  | (
    refine rg 15 [] [some 93, some 92] 2 ?_
    all_goals iterate 2 refine qP ?_
    all_goals refine qE ?_)
  all_goals first
  | fail_if_success with_reducible refine atC 92 ?_
  | (
    refine cn 92 ?_ ?_ <;> intro hc92 <;> try (cases hc92; done)
    all_goals refine st ?_)
  all_goals try (exfalso; omega)
  all_goals first
  | fail_if_success with_reducible refine atR 16 ?_
  | (
    refine rg 16 [] [some 94, some 92] 2 ?_
    all_goals iterate 2 refine qP ?_
    all_goals refine qE ?_)
  all_goals first
  | fail_if_success with_reducible refine atC 92 ?_
  | (
    refine cn 92 ?_ ?_ <;> intro hc92 <;> try (cases hc92; done)
    all_goals refine st ?_)
  all_goals try (exfalso; omega)
  all_goals first
  | fail_if_success with_reducible refine atR 17 ?_
  | (
    refine rg 17 [] [some 95, some 96, some 97, some 2] 4 ?_
    all_goals iterate 2 refine qP ?_
    all_goals (
      refine qL_cons ?_
      intro R hR
      refine sm ?_
      refine call_fun (nameOk_spec to) [] ?_ (.inl rfl) ?_
      · exact ⟨.inl rfl, trivial⟩
      refine sm ?_
      all_goals (refine hR _ ?_; clear hR R))
    all_goals refine qP ?_
    all_goals refine qE ?_)
  all_goals first
  | fail_if_success with_reducible refine atR 18 ?_
  | (
    refine rg 18 [] [some 98, some 99, some 100, some 2] 4 ?_
    all_goals iterate 4 refine qP ?_
    all_goals refine qE ?_)
  all_goals first
  | fail_if_success with_reducible refine ret_fun (t := 2) ?_ ?_
  | (
    refine ret_fun (t := 2) ?_ (fun _ => rfl)
    first
    | exact cl
    | (
      try refine sm ?_
      all_goals (
       first
       | (congr 2; have hln : ¬ ((text.length : Int) = 0) := (by omega); simp_all [opB, wsB, withinB, pth_empty]; done)
       | (congr 2; simp [opB, wsB, withinB] at *; simp_all; done)
       | (congr 2; simp_all [opB, wsB, withinB, pth_empty]; done)
       | (congr 2; simp_all [opB, wsB, withinB, pth_empty, linesB]; done)
       | (congr 2; simp_all [opB, wsB, withinB, pth_empty, linesB]; omega)
       | (congr 2; simp only [opB, wsB, linesB]; by_cases hpe : path = ⟨#[]⟩ <;> simp_all [pth_empty]; done)
       | trace_state)))

end
section
attribute [local go_sem] tsz9 tsz39 tel39 toNat_cast und9 und4 und5b tsz44 tfld44 tsz3' sS
theorem l19Ok_2 (br who path to : ByteArray) (at_ : Int) (text : List ByteArray) (hp : path.size ≤ 1000000) (ht : to.size ≤ 1000000) : Fun Tryd.prog 47 [.ag [.d (.int .i64 2), .d (.str br), .d (.str who), .d (.str path), .d (.str to), .d (.int .i64 at_), .d (strs text)]] (.d (.bool (opB 2 br who path to at_ text))) := by
  refine Fun.of ?_ rfl rfl
  refine Spec.of (fn := Tryd.f47) Tryd.func47 rfl (by kernel_rfl) (rs := [.tmp 2]) rfl 1 (by simp [Tryd.f47]) rfl (by simp) ?_
  intro hreal
  rintro ⟨P, T, L0, w0, ι0, C0, U0⟩ hP hT hU
  subst hP hT
  refine st ?_
  all_goals first
  | fail_if_success with_reducible refine atR 0 ?_
  | (
    refine rg 0 [] [some 1, some 2] 2 ?_
    all_goals iterate 2 refine qP ?_
    all_goals refine qE ?_)
  all_goals first
  | fail_if_success with_reducible refine atR 1 ?_
  | (
    refine rg 1 [] [some 3, some 4, some 5, some 6, some 7, some 8, some 9, some 10, some 11, some 12] 10 ?_
    all_goals iterate 2 refine qP ?_
    all_goals (
      refine qL_cons ?_
      intro R hR
      refine sm ?_
      refine call_fun (l4Name_spec br) [] ?_ (.inl rfl) ?_
      · exact ⟨.inl rfl, trivial⟩
      refine sm ?_
      all_goals (refine hR _ ?_; clear hR R))
    all_goals iterate 2 refine qP ?_
    all_goals first | refine qU 7 ?_ | (refine qS 7 ?_ ?_ <;> intro hg1_4 <;> try (cases hg1_4; done))
    all_goals iterate 2 refine qP ?_
    all_goals first
    | (
      refine qL_cons ?_
      intro R hR
      refine sm ?_
      refine call_fun (l4Name_spec who) [] ?_ (.inl rfl) ?_
      · exact ⟨.inl rfl, trivial⟩
      refine sm ?_
      refine hR _ ?_
      clear hR R)
    | refine qP ?_
    all_goals iterate 2 refine qP ?_
    all_goals refine qE ?_)
  all_goals first
  | fail_if_success with_reducible refine atC 12 ?_
  | (
    refine cn 12 ?_ ?_ <;> intro hc12 <;> try (cases hc12; done)
    all_goals refine st ?_)
  all_goals try (exfalso; omega)
  all_goals first
  | fail_if_success with_reducible refine atR 2 ?_
  | (
    refine rg 2 [] [some 2] 1 ?_
    all_goals refine qP ?_
    all_goals refine qE ?_)
  all_goals first
  | fail_if_success with_reducible refine atR 3 ?_
  | (
    refine rg 3 [] [some 13, some 14] 2 ?_
    all_goals iterate 2 refine qP ?_
    all_goals refine qE ?_)
  all_goals first
  | fail_if_success with_reducible refine atR 4 ?_
  | (
    refine rg 4 [] [some 16, some 15] 2 ?_
    all_goals iterate 2 refine qP ?_
    all_goals refine qE ?_)
  all_goals first
  | fail_if_success with_reducible refine atC 15 ?_
  | (
    refine cn 15 ?_ ?_ <;> intro hc15 <;> try (cases hc15; done)
    all_goals refine st ?_)
  all_goals try (exfalso; omega)
  all_goals first
  | fail_if_success with_reducible refine atR 5 ?_
  | (
    refine rg 5 [] [some 17, some 18, some 19, some 20, some 21, some 22, some 23, some 24, some 25, some 26, some 27, some 28, some 2] 13 ?_
    all_goals refine qP ?_
    all_goals (
      refine qL_cons ?_
      intro R hR
      refine sm ?_
      refine call_fun (l19Bare_spec 2 br who path to at_ text true false false true) [] ?_ (.inl rfl) ?_
      · exact ⟨.inl rfl, ⟨.inl rfl, ⟨.inl rfl, ⟨.inl rfl, ⟨.inl rfl, trivial⟩⟩⟩⟩⟩
      refine sm ?_
      all_goals (refine hR _ ?_; clear hR R))
    all_goals refine qP ?_
    all_goals first | refine qU 19 ?_ | (refine qS 19 ?_ ?_ <;> intro hg5_2 <;> try (cases hg5_2; done))
    all_goals iterate 2 refine qP ?_
    all_goals first
    | (
      refine qL_cons ?_
      intro R hR
      refine sm ?_
      refine call_fun (l4Path_spec path hp) [] ?_ (.inl rfl) ?_
      · exact ⟨.inl rfl, trivial⟩
      refine sm ?_
      refine hR _ ?_
      clear hR R)
    | refine qP ?_
    all_goals iterate 2 refine qP ?_
    all_goals first | refine qU 24 ?_ | (refine qS 24 ?_ ?_ <;> intro hg5_7 <;> try (cases hg5_7; done))
    all_goals iterate 2 refine qP ?_
    all_goals first
    | (
      refine qL_cons ?_
      intro R hR
      refine sm ?_
      refine call_fun (l19Lines_spec text) [] ?_ (.inl rfl) ?_
      · exact ⟨.inl rfl, trivial⟩
      refine sm ?_
      refine hR _ ?_
      clear hR R)
    | refine qP ?_
    all_goals iterate 2 refine qP ?_
    all_goals refine qE ?_)
  all_goals first
  | fail_if_success with_reducible refine atR 6 ?_
  | (
    refine rg 6 [] [some 30, some 29] 2 ?_
    all_goals iterate 2 refine qP ?_
    all_goals refine qE ?_)
  all_goals first
  | fail_if_success with_reducible refine atC 29 ?_
  | (
    refine cn 29 ?_ ?_ <;> intro hc29 <;> try (cases hc29; done)
    all_goals refine st ?_)
  all_goals try (exfalso; omega)
  all_goals first
  | fail_if_success with_reducible refine atR 7 ?_
  | (
    refine rg 7 [] [some 31, some 32, some 33, some 34, some 35, some 36, some 37, some 2] 8 ?_
    all_goals refine qP ?_
    all_goals (
      refine qL_cons ?_
      intro R hR
      refine sm ?_
      refine call_fun (l19Bare_spec 2 br who path to at_ text true false false false) [] ?_ (.inl rfl) ?_
      · exact ⟨.inl rfl, ⟨.inl rfl, ⟨.inl rfl, ⟨.inl rfl, ⟨.inl rfl, trivial⟩⟩⟩⟩⟩
      refine sm ?_
      all_goals (refine hR _ ?_; clear hR R))
    all_goals refine qP ?_
    all_goals first | refine qU 33 ?_ | (refine qS 33 ?_ ?_ <;> intro hg7_2 <;> try (cases hg7_2; done))
    all_goals iterate 2 refine qP ?_
    all_goals first
    | (
      refine qL_cons ?_
      intro R hR
      refine sm ?_
      refine call_fun (l4Path_spec path hp) [] ?_ (.inl rfl) ?_
      · exact ⟨.inl rfl, trivial⟩
      refine sm ?_
      refine hR _ ?_
      clear hR R)
    | refine qP ?_
    all_goals iterate 2 refine qP ?_
    all_goals refine qE ?_)
  all_goals first
  | fail_if_success with_reducible refine atR 8 ?_
  | (
    refine rg 8 [] [some 39, some 38] 2 ?_
    all_goals iterate 2 refine qP ?_
    all_goals refine qE ?_)
  all_goals first
  | fail_if_success with_reducible refine atC 38 ?_
  | (
    refine cn 38 ?_ ?_ <;> intro hc38 <;> try (cases hc38; done)
    all_goals refine st ?_)
  all_goals try (exfalso; omega)
  all_goals first
  | fail_if_success with_reducible refine atR 9 ?_
  | (
    refine rg 9 [] [some 40, some 41, some 42, some 43, some 44, some 45, some 46, some 47, some 48, some 49, some 50, some 51, some 2] 13 ?_
    all_goals refine qP ?_
    all_goals (
      refine qL_cons ?_
      intro R hR
      refine sm ?_
      refine call_fun (l19Bare_spec 2 br who path to at_ text true true false false) [] ?_ (.inl rfl) ?_
      · exact ⟨.inl rfl, ⟨.inl rfl, ⟨.inl rfl, ⟨.inl rfl, ⟨.inl rfl, trivial⟩⟩⟩⟩⟩
      refine sm ?_
      all_goals (refine hR _ ?_; clear hR R))
    all_goals refine qP ?_
    all_goals first | refine qU 42 ?_ | (refine qS 42 ?_ ?_ <;> intro hg9_2 <;> try (cases hg9_2; done))
    all_goals iterate 2 refine qP ?_
    all_goals first
    | (
      refine qL_cons ?_
      intro R hR
      refine sm ?_
      refine call_fun (l4Path_spec path hp) [] ?_ (.inl rfl) ?_
      · exact ⟨.inl rfl, trivial⟩
      refine sm ?_
      refine hR _ ?_
      clear hR R)
    | refine qP ?_
    all_goals iterate 2 refine qP ?_
    all_goals first | refine qU 47 ?_ | (refine qS 47 ?_ ?_ <;> intro hg9_7 <;> try (cases hg9_7; done))
    all_goals iterate 2 refine qP ?_
    all_goals first
    | (
      refine qL_cons ?_
      intro R hR
      refine sm ?_
      refine call_fun (l4Path_spec to ht) [] ?_ (.inl rfl) ?_
      · exact ⟨.inl rfl, trivial⟩
      refine sm ?_
      refine hR _ ?_
      clear hR R)
    | refine qP ?_
    all_goals iterate 2 refine qP ?_
    all_goals refine qE ?_)
  all_goals first
  | fail_if_success with_reducible refine atR 10 ?_
  | (
    refine rg 10 [] [some 53, some 52] 2 ?_
    all_goals iterate 2 refine qP ?_
    all_goals refine qE ?_)
  all_goals first
  | fail_if_success with_reducible refine atC 52 ?_
  | (
    refine cn 52 ?_ ?_ <;> intro hc52 <;> try (cases hc52; done)
    all_goals refine st ?_)
  all_goals try (exfalso; omega)
  all_goals first
  | fail_if_success with_reducible refine atR 11 ?_
  | (
    refine rg 11 [] [some 54, some 52] 2 ?_
    all_goals iterate 2 refine qP ?_
    all_goals refine qE ?_)
  all_goals first
  | fail_if_success with_reducible refine atC 52 ?_
  | (
    refine cn 52 ?_ ?_ <;> intro hc52 <;> try (cases hc52; done)
    all_goals refine st ?_)
  all_goals try (exfalso; omega)
  all_goals first
  | fail_if_success with_reducible refine atR 12 ?_
  | (
    refine rg 12 [] [some 55, some 56, some 57, some 58, some 59, some 60, some 61, some 2] 8 ?_
    all_goals refine qP ?_
    all_goals (
      refine qL_cons ?_
      intro R hR
      refine sm ?_
      refine call_fun (l19Bare_spec 2 br who path to at_ text false true false false) [] ?_ (.inl rfl) ?_
      · exact ⟨.inl rfl, ⟨.inl rfl, ⟨.inl rfl, ⟨.inl rfl, ⟨.inl rfl, trivial⟩⟩⟩⟩⟩
      refine sm ?_
      all_goals (refine hR _ ?_; clear hR R))
    all_goals refine qP ?_
    all_goals first | refine qU 57 ?_ | (refine qS 57 ?_ ?_ <;> intro hg12_2 <;> try (cases hg12_2; done))
    all_goals iterate 2 refine qP ?_
    all_goals first
    | (
      refine qL_cons ?_
      intro R hR
      refine sm ?_
      refine call_fun (l4Name_spec to) [] ?_ (.inl rfl) ?_
      · exact ⟨.inl rfl, trivial⟩
      refine sm ?_
      refine hR _ ?_
      clear hR R)
    | refine qP ?_
    all_goals iterate 2 refine qP ?_
    all_goals refine qE ?_)
  all_goals first
  | fail_if_success with_reducible refine atR 13 ?_
  | (
    refine rg 13 [] [some 63, some 62] 2 ?_
    all_goals iterate 2 refine qP ?_
    all_goals refine qE ?_)
  all_goals first
  | fail_if_success with_reducible refine atC 62 ?_
  | (
    refine cn 62 ?_ ?_ <;> intro hc62 <;> try (cases hc62; done)
    all_goals refine st ?_)
  all_goals try (exfalso; omega)
  all_goals first
  | fail_if_success with_reducible refine atR 14 ?_
  | (
    refine rg 14 [] [some 64, some 62] 2 ?_
    all_goals iterate 2 refine qP ?_
    all_goals refine qE ?_)
  all_goals first
  | fail_if_success with_reducible refine atC 62 ?_
  | (
    refine cn 62 ?_ ?_ <;> intro hc62 <;> try (cases hc62; done)
    all_goals refine st ?_)
  all_goals try (exfalso; omega)
  all_goals first
  | fail_if_success with_reducible refine atR 15 ?_
  | (
    refine rg 15 [] [some 65, some 66, some 67, some 68, some 69, some 70, some 71, some 2] 8 ?_
    all_goals refine qP ?_
    all_goals (
      refine qL_cons ?_
      intro R hR
      refine sm ?_
      refine call_fun (l19Bare_spec 2 br who path to at_ text false false true false) [] ?_ (.inl rfl) ?_
      · exact ⟨.inl rfl, ⟨.inl rfl, ⟨.inl rfl, ⟨.inl rfl, ⟨.inl rfl, trivial⟩⟩⟩⟩⟩
      refine sm ?_
      all_goals (refine hR _ ?_; clear hR R))
    all_goals refine qP ?_
    all_goals first | refine qU 67 ?_ | (refine qS 67 ?_ ?_ <;> intro hg15_2 <;> try (cases hg15_2; done))
    all_goals iterate 2 refine qP ?_
    all_goals first
    | (
      refine qL_cons ?_
      intro R hR
      refine sm ?_
      refine call_fun (l1In_spec at_ 0 15) [] ?_ (.inl rfl) ?_
      · exact ⟨.inl rfl, ⟨.inl rfl, ⟨.inl rfl, trivial⟩⟩⟩
      refine sm ?_
      refine hR _ ?_
      clear hR R)
    | refine qP ?_
    all_goals iterate 2 refine qP ?_
    all_goals refine qE ?_)
  all_goals first
  | fail_if_success with_reducible refine atR 16 ?_
  | (
    refine rg 16 [] [some 2] 1 ?_
    all_goals refine qP ?_
    all_goals refine qE ?_)
  all_goals first
  | fail_if_success with_reducible refine ret_fun (t := 2) ?_ ?_
  | (
    refine ret_fun (t := 2) ?_ (fun _ => rfl)
    first
    | exact cl
    | (
      try refine sm ?_
      all_goals (
       first
       | (congr 2; have hln : ¬ ((text.length : Int) = 0) := (by omega); simp_all [opB, wsB, withinB, pth_empty]; done)
       | (congr 2; simp [opB, wsB, withinB] at *; simp_all; done)
       | (congr 2; simp_all [opB, wsB, withinB, pth_empty]; done)
       | (congr 2; simp_all [opB, wsB, withinB, pth_empty, linesB]; done)
       | (congr 2; simp_all [opB, wsB, withinB, pth_empty, linesB]; omega)
       | (congr 2; simp only [opB, wsB, linesB]; by_cases hpe : path = ⟨#[]⟩ <;> simp_all [pth_empty]; done)
       | trace_state)))

end
end Go.Proofs.YtkbnkcdaiahoeaaDoor
