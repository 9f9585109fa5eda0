/- For every input PostingsTogether returns true, and each argument reads afterwards as it did. No condition. -/
import Derived.Test.YteoefjahcbfpeaaGreatRows
import Derived.Test.YteoefjahcbfpeaaGreatSpTg
import Derived.Test.YteoefjahcbfpeaaGreatSpS
import Derived.Test.YteoefjahcbfpeaaGreatSpR
import Derived.Test.YteoefjahcbfpeaaGreatSpZ
import Derived.ProofKit
import Derived.SizedLaws
namespace Go.Proofs.YteoefjahcbfpeaaGreat
open Go.ChangeShapes Go.WideShapes Go.ChangeAt Go.RowKit Go.Sh

set_option maxRecDepth 100000 in
theorem postingsTogether_lifted (os : Os) (started : os.Started) (H : Type) (enc : TypeId × Value → H) :
    ReturnsInHanded {} Tryz.checked os 3 .any (Rows.postingsTogetherSpec.pre6 enc Tryz.prog Tryz.f3 Rows.postingsTogetherRow.domain false)
      (Rows.postingsTogetherSpec.post enc Tryz.prog Tryz.f3 false true false false) := by
  refine returnsInHanded_of_change_sized (C := Tryz.checked) seatOwn started (by kernel_rfl) Tryz.func3
    (ChangeSpec.witness6 (enc := enc) (C := Tryz.checked) false ⟨#[], #[.slice none 0 0, .slice none 0 0, .int .i64 0], []⟩ 8 (by kernel_rfl) (by kernel_rfl) (by kernel_rfl) (by kernel_rfl)) ?_
  intro W base args ds gs before hval0 hW hcnd hsz0 _
  have hval : ∀ (j : Nat) t v, Tryz.f3.params[j]? = some t → args[j]? = some v → Value.okWide Tryz.prog W .any base t v := hval0
  have hW' := hW
  obtain ⟨p, q, hA0, hV, rfl, hfz, hnd⟩ := hW
  have hA : DataW.TrodAll enc Tryz.prog W 0 (fun _ => true) true Tryz.f3.params.toList args.toList ds p := hA0
  rw [Tryz.params3] at hA hval
  have hAk := hA
  obtain ⟨v0, vs0, d0, ds0, p0, q0, e0, rfl, rfl, h0, hA⟩ := trodAll_cons hA
  obtain ⟨v1, vs1, d1, ds1, p1, q1, rfl, rfl, rfl, h1, hA⟩ := trodAll_cons hA
  obtain ⟨v2, vs2, d2, ds2, p2, q2, rfl, rfl, rfl, h2, hA⟩ := trodAll_cons hA
  have hA3 : DataW.TrodAll enc Tryz.prog W 0 (fun _ => true) true [] vs2 ds2 q2 := hA
  obtain ⟨hvs3, rfl, rfl⟩ := trodAll_none (args := vs2.toArray) hA3
  obtain rfl : vs2 = [] := by simpa using hvs3
  obtain ⟨rfl, rfl⟩ := trodVars_none hV
  obtain rfl : args = #[v0, v1, v2] := Array.toList_inj.1 e0
  obtain ⟨a0, l0, c0, rfl⟩ := okWide_slice Tryz.underlying22 (hval 0 _ v0 rfl rfl)
  obtain ⟨a1, l1, c1, rfl⟩ := okWide_slice Tryz.underlying22 (hval 1 _ v1 rfl rfl)
  obtain ⟨gap, rfl, rfl, rfl, wg⟩ := open_int Tryz.underlying3 (hval 2 _ v2 rfl rfl) h2
  obtain ⟨f0, h0⟩ := h0
  obtain ⟨f1, h1⟩ := h1
  obtain ⟨m1, A1, u0, x0, hB1, hm1, hE1, hv0, hp0, hw0⟩ := posts_inW (Base.empty Tryz.prog (W := W) (fun x hx => by cases hx)) h0
  obtain ⟨m2, A2, u1, x1, hB2, hm2, hE2, hv1, hp1, hw1⟩ := posts_inW hB1 h1
  have hsz := hsz0
  rw [Tryz.params3] at hsz
  simp only [Array.toList,List.cons_append,List.nil_append,DataW.weightsEach,List.all_append,Bool.and_eq_true] at hsz
  have hreach : reachBytes ≤ 140737488355328 := by decide
  have hcall := ptog_ok A2 u0 u1 x0 x1 gap (inI64_of wg) (hp0.fr hE2) hp1 (fun p hp => by have := hw0 hsz.1 p hp; omega) (fun p hp => by have := hw1 hsz.2.1 p hp; omega) hB2.ch (fun v _ => v = .bool true) fun _ => rfl
  have hargs : ARel m2 #[u0, u1, .int .i64 gap] #[.slice a0 l0 c0, .slice a1 l1 c1, .int .i64 gap] := by
    refine ARel.of rfl fun i v v' hv hv' => ?_
    match i, hv, hv' with
    | 0, hv, hv' => cases hv; cases hv'; exact hv0.mono hm2
    | 1, hv, hv' => cases hv; cases hv'; exact hv1
    | 2, hv, hv' => cases hv; cases hv'; exact .int _ _
    | i + 3, hv, hv' => simp at hv
  have hcalls : Calls Tryz.prog 3 _ W _ := calls_of (K := Kt) Kt_ok hB2 hargs hcall
  refine hcalls.mono fun e W' ⟨he, hb⟩ => ?_
  subst he
  have hlt : ∀ x ∈ p0 ++ (p1 ++ ([] ++ [])) ++ [], x.block < W.heap.size := fun x hx => by simpa using hW'.lt x hx
  refine ⟨_, rfl, _, [], _, [], p0 ++ (p1 ++ ([] ++ [])), [], hW', ?_, ?_, rfl, hb.frame _, fun h => by cases h⟩
  · exact trodAll_mk1 (shut_bool Tryz.underlying4 true)
  · exact seat_trodAll hb _ (by decide +kernel) _ _ _ hAk (fun x hx => hlt x (List.mem_append_left _ hx))

theorem postingsTogether_holds : Rows.PostingsTogetherSaid :=
  OpenClaim.holds_of_wide 3 Tryz.f3 rfl rfl rfl rfl rfl rfl rfl ⟨rfl, rfl, rfl, rfl, rfl⟩ rfl rfl rfl rfl rfl (by kernel_rfl) Tryz.func3 (by kernel_rfl)
    (of_decide_eq_true (by kernel_rfl)) (by unfold Func.isWrapper; first | (rw [if_pos (by decide +kernel)]; kernel_rfl) | (rw [if_neg (by decide +kernel)]; exact ⟨rfl, rfl⟩))
    (fun os started H enc _ => postingsTogether_lifted os started H enc)
#print axioms postingsTogether_holds
end Go.Proofs.YteoefjahcbfpeaaGreat
