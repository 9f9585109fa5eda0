/- For every input PostingsOnce returns true, and each argument reads afterwards as it did. No condition. -/
import Derived.Test.YteoefjahcbfpeaaRows
import Derived.Test.YteoefjahcbfpeaaSpX
import Derived.Test.YteoefjahcbfpeaaSpS
import Derived.Test.YteoefjahcbfpeaaSpR
import Derived.Test.YteoefjahcbfpeaaSpZ
import Derived.ProofKit
namespace Go.Proofs.Yteoefjahcbfpeaa
open Go.ChangeShapes Go.WideShapes Go.ChangeAt Go.RowKit Go.Sh

set_option maxRecDepth 100000 in
theorem postingsOnce_lifted (os : Os) (started : os.Started) (H : Type) (enc : TypeId × Value → H) :
    ReturnsInHanded {} Try.checked os 3 .any (Rows.postingsOnceSpec.pre6 enc Try.prog Try.f3 Rows.postingsOnceRow.domain false)
      (Rows.postingsOnceSpec.post enc Try.prog Try.f3 false true false false) := by
  refine returnsInHanded_of_change (C := Try.checked) seatOwn started (by kernel_rfl) Try.func3
    (ChangeSpec.witness6 (enc := enc) (C := Try.checked) false ⟨#[], #[.string ⟨#[]⟩], []⟩ 8 (by kernel_rfl) (by kernel_rfl) (by kernel_rfl) (by kernel_rfl)) ?_
  intro W base args ds gs before hval0 hW hcnd _
  have hval : ∀ (j : Nat) t v, Try.f3.params[j]? = some t → args[j]? = some v → Value.okWide Try.prog W .any base t v := hval0
  have hW' := hW
  obtain ⟨p, q, hA0, hV, rfl, hfz, hnd⟩ := hW
  have hA : DataW.TrodAll enc Try.prog W 0 (fun _ => true) true Try.f3.params.toList args.toList ds p := hA0
  rw [Try.params3] at hA hval
  have hAk := hA
  obtain ⟨v0, vs0, d0, ds0, p0, q0, e0, rfl, rfl, h0, hA⟩ := trodAll_cons hA
  have hA5 : DataW.TrodAll enc Try.prog W 0 (fun _ => true) true [] vs0 ds0 q0 := hA
  obtain ⟨hvs4, rfl, rfl⟩ := trodAll_none (args := vs0.toArray) hA5
  obtain rfl : vs0 = [] := by simpa using hvs4
  obtain ⟨rfl, rfl⟩ := trodVars_none hV
  obtain rfl : args = #[v0] := Array.toList_inj.1 e0
  obtain ⟨s, rfl⟩ := okWide_string Try.underlying9 (hval 0 _ v0 rfl rfl)
  have hcall := once_ok A00 s (fun v _ => v = .bool true) fun _ _ => rfl
  have hargs : ARel (fun _ => none) #[.string s] #[.string s] := by
    refine ARel.of rfl fun i v v' hv hv' => ?_
    match i, hv, hv' with
    | 0, hv, hv' => cases hv; cases hv'; exact .string _
    | i + 1, hv, hv' => simp at hv
  have hcalls : Calls Try.prog 3 _ W _ := calls_of (K := Kt) Kt_ok (Base.empty Try.prog W) hargs hcall
  refine hcalls.mono fun e W' ⟨he, hb⟩ => ?_
  subst he
  have hlt : ∀ x ∈ p0 ++ [] ++ [], x.block < W.heap.size := fun x hx => by simpa using hW'.lt x hx
  refine ⟨_, rfl, _, [], _, [], p0 ++ [], [], hW', ?_, ?_, rfl, hb.frame _, fun h => by cases h⟩
  · exact trodAll_mk1 (shut_bool Try.underlying4 true)
  · exact seat_trodAll hb _ (by decide +kernel) _ _ _ hAk (fun x hx => hlt x (List.mem_append_left _ hx))

theorem postingsOnce_holds : Rows.PostingsOnceSaid :=
  OpenClaim.holds_of_wide 3 Try.f3 rfl rfl rfl rfl rfl rfl rfl ⟨rfl, rfl, rfl, rfl, rfl⟩ rfl rfl rfl rfl rfl (by kernel_rfl) Try.func3 (by kernel_rfl)
    (of_decide_eq_true (by kernel_rfl)) (by unfold Func.isWrapper; first | (rw [if_pos (by decide +kernel)]; kernel_rfl) | (rw [if_neg (by decide +kernel)]; exact ⟨rfl, rfl⟩))
    (fun os started H enc _ => postingsOnce_lifted os started H enc)
#print axioms postingsOnce_holds
end Go.Proofs.Yteoefjahcbfpeaa
