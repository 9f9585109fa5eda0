/- For every input PostingsRow returns true, and each argument reads afterwards as it did. No condition. -/
import Derived.Test.YteoefjahcbfpeaaRows
import Derived.Test.YteoefjahcbfpeaaSpL
import Derived.Test.YteoefjahcbfpeaaSpS
import Derived.Test.YteoefjahcbfpeaaSpR
import Derived.Test.YteoefjahcbfpeaaSpZ
import Derived.ProofKit
namespace Go.Proofs.Yteoefjahcbfpeaa
open Go.ChangeShapes Go.WideShapes Go.ChangeAt Go.RowKit Go.Sh

set_option maxRecDepth 100000 in
theorem postingsRow_lifted (os : Os) (started : os.Started) (H : Type) (enc : TypeId × Value → H) :
    ReturnsInHanded {} Try.checked os 5 .any (Rows.postingsRowSpec.pre6 enc Try.prog Try.f5 Rows.postingsRowRow.domain false)
      (Rows.postingsRowSpec.post enc Try.prog Try.f5 false true false false) := by
  refine returnsInHanded_of_change (C := Try.checked) seatOwn started (by kernel_rfl) Try.func5
    (ChangeSpec.witness6 (enc := enc) (C := Try.checked) false ⟨#[], #[.slice none 0 0, .slice none 0 0, .slice none 0 0, .int .i64 0, .int .i64 0], []⟩ 8 (by kernel_rfl) (by kernel_rfl) (by kernel_rfl) (by kernel_rfl)) ?_
  intro W base args ds gs before hval0 hW hcnd _
  have hval : ∀ (j : Nat) t v, Try.f5.params[j]? = some t → args[j]? = some v → Value.okWide Try.prog W .any base t v := hval0
  have hW' := hW
  obtain ⟨p, q, hA0, hV, rfl, hfz, hnd⟩ := hW
  have hA : DataW.TrodAll enc Try.prog W 0 (fun _ => true) true Try.f5.params.toList args.toList ds p := hA0
  rw [Try.params5] at hA hval
  have hAk := hA
  obtain ⟨v0, vs0, d0, ds0, p0, q0, e0, rfl, rfl, h0, hA⟩ := trodAll_cons hA
  obtain ⟨v1, vs1, d1, ds1, p1, q1, rfl, rfl, rfl, h1, hA⟩ := trodAll_cons hA
  obtain ⟨v2, vs2, d2, ds2, p2, q2, rfl, rfl, rfl, h2, hA⟩ := trodAll_cons hA
  obtain ⟨v3, vs3, d3, ds3, p3, q3, rfl, rfl, rfl, h3, hA⟩ := trodAll_cons hA
  obtain ⟨v4, vs4, d4, ds4, p4, q4, rfl, rfl, rfl, h4, hA⟩ := trodAll_cons hA
  have hA5 : DataW.TrodAll enc Try.prog W 0 (fun _ => true) true [] vs4 ds4 q4 := hA
  obtain ⟨hvs4, rfl, rfl⟩ := trodAll_none (args := vs4.toArray) hA5
  obtain rfl : vs4 = [] := by simpa using hvs4
  obtain ⟨rfl, rfl⟩ := trodVars_none hV
  obtain rfl : args = #[v0, v1, v2, v3, v4] := Array.toList_inj.1 e0
  obtain ⟨a0, l0, c0, rfl⟩ := okWide_slice Try.underlying29 (hval 0 _ v0 rfl rfl)
  obtain ⟨a1, l1, c1, rfl⟩ := okWide_slice Try.underlying29 (hval 1 _ v1 rfl rfl)
  obtain ⟨a2, l2, c2, rfl⟩ := okWide_slice Try.underlying29 (hval 2 _ v2 rfl rfl)
  obtain ⟨gap, rfl, rfl, rfl, wg⟩ := open_int Try.underlying3 (hval 3 _ v3 rfl rfl) h3
  obtain ⟨nxt, rfl, rfl, rfl, wn⟩ := open_int Try.underlying3 (hval 4 _ v4 rfl rfl) h4
  obtain ⟨f0, h0⟩ := h0
  obtain ⟨f1, h1⟩ := h1
  obtain ⟨f2, h2⟩ := h2
  obtain ⟨m1, A1, u0, x0, hB1, hm1, hE1, hv0, hp0⟩ := posts_in (Base.empty Try.prog W) h0
  obtain ⟨m2, A2, u1, x1, hB2, hm2, hE2, hv1, hp1⟩ := posts_in hB1 h1
  obtain ⟨m3, A3, u2, x2, hB3, hm3, hE3, hv2, hp2⟩ := posts_in hB2 h2
  have hcall := row_ok A3 u0 u1 u2 x0 x1 x2 gap nxt (inI64_of wg) (inI64_of wn) ((hp0.fr hE2).fr hE3) (hp1.fr hE3) hp2 (fun v _ => v = .bool true) fun _ _ => rfl
  have hargs : ARel m3 #[u0, u1, u2, .int .i64 gap, .int .i64 nxt] #[.slice a0 l0 c0, .slice a1 l1 c1, .slice a2 l2 c2, .int .i64 gap, .int .i64 nxt] := by
    refine ARel.of rfl fun i v v' hv hv' => ?_
    match i, hv, hv' with
    | 0, hv, hv' => cases hv; cases hv'; exact (hv0.mono hm2).mono hm3
    | 1, hv, hv' => cases hv; cases hv'; exact hv1.mono hm3
    | 2, hv, hv' => cases hv; cases hv'; exact hv2
    | 3, hv, hv' => cases hv; cases hv'; exact .int _ _
    | 4, hv, hv' => cases hv; cases hv'; exact .int _ _
    | i + 5, hv, hv' => simp at hv
  have hcalls : Calls Try.prog 5 _ W _ := calls_of (K := Kt) Kt_ok hB3 hargs hcall
  refine hcalls.mono fun e W' ⟨he, hb⟩ => ?_
  subst he
  have hlt : ∀ x ∈ p0 ++ (p1 ++ (p2 ++ ([] ++ ([] ++ [])))) ++ [], x.block < W.heap.size := fun x hx => by simpa using hW'.lt x hx
  refine ⟨_, rfl, _, [], _, [], p0 ++ (p1 ++ (p2 ++ ([] ++ ([] ++ [])))), [], hW', ?_, ?_, rfl, hb.frame _, fun h => by cases h⟩
  · exact trodAll_mk1 (shut_bool Try.underlying4 true)
  · exact seat_trodAll hb _ (by decide +kernel) _ _ _ hAk (fun x hx => hlt x (List.mem_append_left _ hx))

theorem postingsRow_holds : Rows.PostingsRowSaid :=
  OpenClaim.holds_of_wide 5 Try.f5 rfl rfl rfl rfl rfl rfl rfl ⟨rfl, rfl, rfl, rfl, rfl⟩ rfl rfl rfl rfl rfl (by kernel_rfl) Try.func5 (by kernel_rfl)
    (of_decide_eq_true (by kernel_rfl)) (by unfold Func.isWrapper; first | (rw [if_pos (by decide +kernel)]; kernel_rfl) | (rw [if_neg (by decide +kernel)]; exact ⟨rfl, rfl⟩))
    (fun os started H enc _ => postingsRow_lifted os started H enc)
#print axioms postingsRow_holds
end Go.Proofs.Yteoefjahcbfpeaa
