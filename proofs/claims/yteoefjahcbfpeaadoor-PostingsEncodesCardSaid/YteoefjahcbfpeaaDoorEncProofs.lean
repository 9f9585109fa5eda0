/- For every input PostingsEncodes returns true, and each argument reads afterwards as it did. -/
import Derived.Test.YteoefjahcbfpeaaDoorLaid
import Derived.Test.YteoefjahcbfpeaaDoorSpEn
import Derived.Test.YteoefjahcbfpeaaDoorSpR
import Derived.Test.YteoefjahcbfpeaaDoorSpZ
namespace Go.Proofs.YteoefjahcbfpeaaDoor
open Go.ChangeShapes Go.WideShapes Go.ChangeAt Go.RowKit Go.Sh

set_option maxRecDepth 100000 in
theorem postingsEncodes_lifted (os : Os) (started : os.Started) (H : Type) (enc : TypeId × Value → H) :
    ReturnsInHanded {} Tryd.checked os 3 .any (fun w args => (Rows.postingsEncodesSpec.pre enc Tryd.prog Tryd.f3 [] false w args ∧ laidMetH Tryd.prog Rows.postingsEncodesRow.laid w) ∧ sizedMet enc Tryd.prog Tryd.f3 (OpenSpec.ofChange Rows.postingsEncodesSpec) false w args)
      (Rows.postingsEncodesSpec.post enc Tryd.prog Tryd.f3 false true false false) := by
  refine returnsInHanded_of_change_and (C := Tryd.checked) (X := fun w _ => laidMetH Tryd.prog Rows.postingsEncodesRow.laid w) (fun _ _ _ hh h => h.of_heap hh) seatOwn started (by kernel_rfl) Tryd.func3
    (ChangeSpec.witness_at (enc := enc) (C := Tryd.checked) (os := os) (X := fun w _ => laidMetH Tryd.prog Rows.postingsEncodesRow.laid w) false (laidWorld os) #[.slice none 0 0] 8 rfl (by kernel_rfl) (by kernel_rfl) (by kernel_rfl) (by kernel_rfl) (by kernel_rfl) (laidWorld_met os _)) ?_
  intro W base args ds gs before hval0 hW _ hsz0 hL _
  have hval : ∀ (j : Nat) t v, Tryd.f3.params[j]? = some t → args[j]? = some v → Value.okWide Tryd.prog W .any base t v := hval0
  have hW' := hW
  obtain ⟨p, q, hA0, hV, rfl, hfz, hnd⟩ := hW
  have hA : DataW.TrodAll enc Tryd.prog W 0 (fun _ => true) true Tryd.f3.params.toList args.toList ds p := hA0
  rw [Tryd.params3] at hA hval
  have hAk := hA
  obtain ⟨v0, vs0, d0, ds0, p0, q0, e0, rfl, rfl, h0, hA⟩ := trodAll_cons hA
  have hA5 : DataW.TrodAll enc Tryd.prog W 0 (fun _ => true) true [] vs0 ds0 q0 := hA
  obtain ⟨hvs4, rfl, rfl⟩ := trodAll_none (args := vs0.toArray) hA5
  obtain rfl : vs0 = [] := by simpa using hvs4
  obtain ⟨rfl, rfl⟩ := trodVars_none hV
  obtain rfl : args = #[v0] := Array.toList_inj.1 e0
  obtain ⟨a0, l0, c0, rfl⟩ := okWide_slice Tryd.underlying22 (hval 0 _ v0 rfl rfl)
  obtain ⟨f0, h0⟩ := h0
  obtain ⟨m1, A1, u0, x0, hB1, hm1, hE1, hv0, hp0, hw0⟩ := posts_inW (Base.empty Tryd.prog (fixW_of_laid hL)) h0
  have hsz := hsz0
  rw [Tryd.params3] at hsz
  simp only [List.cons_append,List.nil_append,DataW.weightsEach,List.all_append,Bool.and_eq_true] at hsz
  have hreach : reachBytes ≤ 140737488355328 := by decide
  have hcall := encodes_ok A1 u0 x0 hp0 (fun p hp => by have := hw0 hsz.1 p hp; omega) (fun v _ => v = .bool true) fun _ => rfl
  have hargs : ARel m1 #[u0] #[.slice a0 l0 c0] := by
    refine ARel.of rfl fun i v v' hv hv' => ?_
    match i, hv, hv' with
    | 0, hv, hv' => cases hv; cases hv'; exact hv0
    | i + 1, hv, hv' => simp at hv
  have hcalls : Calls Tryd.prog 3 _ W _ := calls_of (K := Kt) Kt_ok hB1 hargs hcall
  refine hcalls.mono fun e W' ⟨he, hb⟩ => ?_
  subst he
  have hlt : ∀ x ∈ p0 ++ [] ++ [], x.block < W.heap.size := fun x hx => by simpa using hW'.lt x hx
  refine ⟨_, rfl, _, [], _, [], p0 ++ [], [], hW', ?_, ?_, rfl, hb.frame _, fun h => by cases h⟩
  · exact trodAll_mk1 (shut_bool Tryd.underlying4 true)
  · exact seat_trodAll hb _ (by decide +kernel) _ _ _ hAk (fun x hx => hlt x (List.mem_append_left _ hx))

theorem postingsEncodes_holds : Rows.PostingsEncodesSaid :=
  OpenClaim.holds_of_wide 3 Tryd.f3 rfl rfl rfl rfl rfl rfl rfl ⟨rfl, rfl, rfl, rfl, rfl⟩ rfl rfl rfl rfl rfl (by kernel_rfl) Tryd.func3 (by kernel_rfl)
    (of_decide_eq_true (by kernel_rfl)) (by unfold Func.isWrapper; first | (rw [if_pos (by decide +kernel)]; kernel_rfl) | (rw [if_neg (by decide +kernel)]; exact ⟨rfl, rfl⟩))
    (fun os started H enc _ => postingsEncodes_lifted os started H enc)
#print axioms postingsEncodes_holds
end Go.Proofs.YteoefjahcbfpeaaDoor
