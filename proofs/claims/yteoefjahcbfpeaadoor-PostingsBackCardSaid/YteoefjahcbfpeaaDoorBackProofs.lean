/- For every input PostingsBack returns true, and each argument reads afterwards as it did. -/
import Derived.Test.YteoefjahcbfpeaaDoorLaid
import Derived.Test.YteoefjahcbfpeaaDoorSpBk
import Derived.Test.YteoefjahcbfpeaaDoorSpR
import Derived.Test.YteoefjahcbfpeaaDoorSpZ
namespace Go.Proofs.YteoefjahcbfpeaaDoor
open Go.ChangeShapes Go.WideShapes Go.ChangeAt Go.RowKit Go.Sh

set_option maxRecDepth 100000 in
theorem postingsBack_lifted (os : Os) (started : os.Started) (H : Type) (enc : TypeId × Value → H) :
    ReturnsInHanded {} Tryd.checked os 4 .any (fun w args => (Rows.postingsBackSpec.pre enc Tryd.prog Tryd.f4 [] false w args ∧ laidMetH Tryd.prog Rows.postingsBackRow.laid w) ∧ sizedMet enc Tryd.prog Tryd.f4 (OpenSpec.ofChange Rows.postingsBackSpec) false w args)
      (Rows.postingsBackSpec.post enc Tryd.prog Tryd.f4 false true false false) := by
  refine returnsInHanded_of_change_and (C := Tryd.checked) (X := fun w _ => laidMetH Tryd.prog Rows.postingsBackRow.laid w) (fun _ _ _ hh h => h.of_heap hh) seatOwn started (by kernel_rfl) Tryd.func4
    (ChangeSpec.witness_at (enc := enc) (C := Tryd.checked) (os := os) (X := fun w _ => laidMetH Tryd.prog Rows.postingsBackRow.laid w) false (laidWorld os) #[.slice none 0 0, .int .i64 0] 8 rfl (by kernel_rfl) (by kernel_rfl) (by kernel_rfl) (by kernel_rfl) (by kernel_rfl) (laidWorld_met os _)) ?_
  intro W base args ds gs before hval0 hW _ _ hL _
  have hval : ∀ (j : Nat) t v, Tryd.f4.params[j]? = some t → args[j]? = some v → Value.okWide Tryd.prog W .any base t v := hval0
  have hW' := hW
  obtain ⟨p, q, hA0, hV, rfl, hfz, hnd⟩ := hW
  have hA : DataW.TrodAll enc Tryd.prog W 0 (fun _ => true) true Tryd.f4.params.toList args.toList ds p := hA0
  rw [Tryd.params4] at hA hval
  have hAk := hA
  obtain ⟨v0, vs0, d0, ds0, p0, q0, e0, rfl, rfl, h0, hA⟩ := trodAll_cons hA
  obtain ⟨v1, vs1, d1, ds1, p1, q1, rfl, rfl, rfl, h1, hA⟩ := trodAll_cons hA
  have hA5 : DataW.TrodAll enc Tryd.prog W 0 (fun _ => true) true [] vs1 ds1 q1 := hA
  obtain ⟨hvs4, rfl, rfl⟩ := trodAll_none (args := vs1.toArray) hA5
  obtain rfl : vs1 = [] := by simpa using hvs4
  obtain ⟨rfl, rfl⟩ := trodVars_none hV
  obtain rfl : args = #[v0, v1] := Array.toList_inj.1 e0
  obtain ⟨a0, l0, c0, rfl⟩ := okWide_slice Tryd.underlying22 (hval 0 _ v0 rfl rfl)
  obtain ⟨cut, rfl, rfl, rfl, wc⟩ := open_int Tryd.underlying3 (hval 1 _ v1 rfl rfl) h1
  obtain ⟨f0, h0⟩ := h0
  obtain ⟨m1, A1, u0, x0, hB1, hm1, hE1, hv0, hp0⟩ := posts_in (Base.empty Tryd.prog (fixW_of_laid hL)) h0
  have hcall := back_ok A1 u0 x0 hp0 cut (inI64_of wc) (fun v _ => v = .bool true) fun _ _ => rfl
  have hargs : ARel m1 #[u0, .int .i64 cut] #[.slice a0 l0 c0, .int .i64 cut] := by
    refine ARel.of rfl fun i v v' hv hv' => ?_
    match i, hv, hv' with
    | 0, hv, hv' => cases hv; cases hv'; exact hv0
    | 1, hv, hv' => cases hv; cases hv'; exact .int _ _
    | i + 2, hv, hv' => simp at hv
  have hcalls : Calls Tryd.prog 4 _ W _ := calls_of (K := Kt) Kt_ok hB1 hargs hcall
  refine hcalls.mono fun e W' ⟨he, hb⟩ => ?_
  subst he
  have hlt : ∀ x ∈ p0 ++ ([] ++ []) ++ [], x.block < W.heap.size := fun x hx => by simpa using hW'.lt x hx
  refine ⟨_, rfl, _, [], _, [], p0 ++ ([] ++ []), [], hW', ?_, ?_, rfl, hb.frame _, fun h => by cases h⟩
  · exact trodAll_mk1 (shut_bool Tryd.underlying4 true)
  · exact seat_trodAll hb _ (by decide +kernel) _ _ _ hAk (fun x hx => hlt x (List.mem_append_left _ hx))

theorem postingsBack_holds : Rows.PostingsBackSaid :=
  OpenClaim.holds_of_wide 4 Tryd.f4 rfl rfl rfl rfl rfl rfl rfl ⟨rfl, rfl, rfl, rfl, rfl⟩ rfl rfl rfl rfl rfl (by kernel_rfl) Tryd.func4 (by kernel_rfl)
    (of_decide_eq_true (by kernel_rfl)) (by unfold Func.isWrapper; first | (rw [if_pos (by decide +kernel)]; kernel_rfl) | (rw [if_neg (by decide +kernel)]; exact ⟨rfl, rfl⟩))
    (fun os started H enc _ => postingsBack_lifted os started H enc)
#print axioms postingsBack_holds
end Go.Proofs.YteoefjahcbfpeaaDoor
