/- What single functions do, part 6: what is kept of two lists. -/
import Derived.Test.YteoefjahcbfpeaaGreatSpE
namespace Go.Sh
open Go Go.Proofs
set_option linter.unusedSimpArgs false
set_option maxRecDepth 4000

theorem fn_either1 : Kt.funcs 21 = some Tryz.f21 := by kernel_rfl
theorem fn_both1 : Kt.funcs 22 = some Tryz.f22 := by kernel_rfl
theorem fn_less1 : Kt.funcs 23 = some Tryz.f23 := by kernel_rfl
theorem fn_either : Kt.funcs 6 = some Tryz.f6 := by kernel_rfl
theorem fn_both : Kt.funcs 7 = some Tryz.f7 := by kernel_rfl
theorem fn_less : Kt.funcs 8 = some Tryz.f8 := by kernel_rfl
theorem fn_kept : Kt.funcs 20 = some Tryz.f20 := by kernel_rfl
theorem ts_fside : tsize Tryz.prog 67 = some 1 := by kernel_rfl
theorem PtrTo.ptr {X : Type} {P : AHeap → Value → X → Prop} {A : AHeap} {p : Value} {o : Option X} (h : PtrTo P A p o) : ∃ a, p = .pointer a ∧ a.isSome = o.isSome := by
  cases o with
  | none => exact ⟨none, h, rfl⟩
  | some x => obtain ⟨b, c, r, u, h1, _⟩ := h; exact ⟨_, h1, rfl⟩

/-- A function that says which documents are kept. -/
def Sel (g : FuncId) (sel : Bool → Bool → Bool) : Prop := ∀ A pa pb (oa ob : Option (List Int)), PtrTo Ints A pa oa → PtrTo Ints A pb ob → ∀ Q, (∀ A', Ext A A' → Q (.bool (sel oa.isSome ob.isSome)) A') → Cal Kt g #[.agg #[pa, pb]] A Q

theorem sel_either : Sel 21 fun _ _ => true := by
  intro A pa pb oa ob ha hb Q hq
  refine Cal_of (nt := 3) (rs := [.tmp 2]) fn_either1 rfl rfl rfl (Nat.le_of_ble_eq_true rfl) ?_
  simp only [zaa,zab,zac,zad,zae,zaf,zag,zah,zai,zaj,zak,zal,zam,zan,zao,zap,zaq,zar,zas,zat,zau,zav,zaw,zax,zay,zaz,zba,aUn,zbb,zbc,zbd,zbe,zbf,zbg,zbh,zbi,zbj,zbk,zbl,zbm,zbn,flat,simple,zbo,zbp,zbq,zbr,zbs,zbt,zbu,zbv,zbw,zbx,zby,zbz,zca,zcb,zcc,zcd,zce,zcf,zcg,zch,zci,zcj,zck,zcl,zcm,zcn,zco,zcp,zcq,zcr,Nat.reduceEqDiff,Nat.reduceLT,Nat.reduceAdd,Nat.reduceSub,reduceIte,Kt_P,zcs,zct,zcu,zcv,zcw,zcx,zcy,zcz,zda,zdb,zdc,zdd,zde,zdf,zdg,zdh,zdi,zdj,zdk,reduceCtorEq,zdl,zdm,zdn,goInt,zdo,zdp,zdq,zdr,zds,zdt,zdu,zdv,zdw,zdx,zdy,zdz,zea,zeb,zec,zed,zdk,zee,zef,zeg,zeh,zei,zej,zek,zel,zem,zen,zeo,zep,zeq,zer,zes,zet,zeu,zev,zew,zex,zey,ya,yb,yc,yd,ye,yf,ts_int,ts_int64,ts_bool,ts_ints,ts_post,ts_posts,yg,yh,yi,yj,yk,yl,ym,ts_intsl,ts_int64s,ts_bools,ts_side,ts_sideb,ts_pints,ts_pbool,aPure,aLen]
  refine OpW_box_of ts_side rfl fun b1 A1 hb1 hn1 hE1 hB1 => ?_
  simp only [zaa,zab,zac,zad,zae,zaf,zag,zah,zai,zaj,zak,zal,zam,zan,zao,zap,zaq,zar,zas,zat,zau,zav,zaw,zax,zay,zaz,zba,aUn,zbb,zbc,zbd,zbe,zbf,zbg,zbh,zbi,zbj,zbk,zbl,zbm,zbn,flat,simple,zbo,zbp,zbq,zbr,zbs,zbt,zbu,zbv,zbw,zbx,zby,zbz,zca,zcb,zcc,zcd,zce,zcf,zcg,zch,zci,zcj,zck,zcl,zcm,zcn,zco,zcp,zcq,zcr,Nat.reduceEqDiff,Nat.reduceLT,Nat.reduceAdd,Nat.reduceSub,reduceIte,Kt_P,zcs,zct,zcu,zcv,zcw,zcx,zcy,zcz,zda,zdb,zdc,zdd,zde,zdf,zdg,zdh,zdi,zdj,zdk,reduceCtorEq,zdl,zdm,zdn,goInt,zdo,zdp,zdq,zdr,zds,zdt,zdu,zdv,zdw,zdx,zdy,zdz,zea,zeb,zec,zed,zdk,zee,zef,zeg,zeh,zei,zej,zek,zel,zem,zen,zeo,zep,zeq,zer,zes,zet,zeu,zev,zew,zex,zey,ya,yb,yc,yd,ye,yf,ts_int,ts_int64,ts_bool,ts_ints,ts_post,ts_posts,yg,yh,yi,yj,yk,yl,ym,ts_intsl,ts_int64s,ts_bools,ts_side,ts_sideb,ts_pints,ts_pbool,aPure,aLen]
  exact hq A1 hE1

theorem sel_both : Sel 22 fun a b => a && b := by
  intro A pa pb oa ob ha hb Q hq
  refine Cal_of (nt := 11) (rs := [.tmp 2]) fn_both1 rfl rfl rfl (Nat.le_of_ble_eq_true rfl) ?_
  obtain ⟨pa, rfl, ka⟩ := ha.ptr
  obtain ⟨pb, rfl, kb⟩ := hb.ptr
  rw [← ka, ← kb] at hq
  have nn := fun c a => aBin_nil_neq (P := Tryz.prog) (c := c) Tryz.underlying64 a
  simp only [zaa,zab,zac,zad,zae,zaf,zag,zah,zai,zaj,zak,zal,zam,zan,zao,zap,zaq,zar,zas,zat,zau,zav,zaw,zax,zay,zaz,zba,aUn,zbb,zbc,zbd,zbe,zbf,zbg,zbh,zbi,zbj,zbk,zbl,zbm,zbn,flat,simple,zbo,zbp,zbq,zbr,zbs,zbt,zbu,zbv,zbw,zbx,zby,zbz,zca,zcb,zcc,zcd,zce,zcf,zcg,zch,zci,zcj,zck,zcl,zcm,zcn,zco,zcp,zcq,zcr,Nat.reduceEqDiff,Nat.reduceLT,Nat.reduceAdd,Nat.reduceSub,reduceIte,Kt_P,zcs,zct,zcu,zcv,zcw,zcx,zcy,zcz,zda,zdb,zdc,zdd,zde,zdf,zdg,zdh,zdi,zdj,zdk,reduceCtorEq,zdl,zdm,zdn,goInt,zdo,zdp,zdq,zdr,zds,zdt,zdu,zdv,zdw,zdx,zdy,zdz,zea,zeb,zec,zed,zdk,zee,zef,zeg,zeh,zei,zej,zek,zel,zem,zen,zeo,zep,zeq,zer,zes,zet,zeu,zev,zew,zex,zey,ya,yb,yc,yd,ye,yf,ts_int,ts_int64,ts_bool,ts_ints,ts_post,ts_posts,yg,yh,yi,yj,yk,yl,ym,ts_intsl,ts_int64s,ts_bools,ts_side,ts_sideb,ts_pints,ts_pbool,aPure,aLen]
  refine OpW_box_of ts_side rfl fun b1 A1 hb1 hn1 hE1 hB1 => ?_
  replace hB1 : Box A1 b1 66 [.pointer pa, .pointer pb] := hB1
  have l0 := hB1.load (P := Tryz.prog) (o := 0) (t := 64) Tryz.underlying64 rfl rfl
  have l1 := hB1.load (P := Tryz.prog) (o := 1) (t := 64) Tryz.underlying64 rfl rfl
  simp only [zaa,zab,zac,zad,zae,zaf,zag,zah,zai,zaj,zak,zal,zam,zan,zao,zap,zaq,zar,zas,zat,zau,zav,zaw,zax,zay,zaz,zba,aUn,zbb,zbc,zbd,zbe,zbf,zbg,zbh,zbi,zbj,zbk,zbl,zbm,zbn,flat,simple,zbo,zbp,zbq,zbr,zbs,zbt,zbu,zbv,zbw,zbx,zby,zbz,zca,zcb,zcc,zcd,zce,zcf,zcg,zch,zci,zcj,zck,zcl,zcm,zcn,zco,zcp,zcq,zcr,Nat.reduceEqDiff,Nat.reduceLT,Nat.reduceAdd,Nat.reduceSub,reduceIte,Kt_P,zcs,zct,zcu,zcv,zcw,zcx,zcy,zcz,zda,zdb,zdc,zdd,zde,zdf,zdg,zdh,zdi,zdj,zdk,reduceCtorEq,zdl,zdm,zdn,goInt,zdo,zdp,zdq,zdr,zds,zdt,zdu,zdv,zdw,zdx,zdy,zdz,zea,zeb,zec,zed,zdk,zee,zef,zeg,zeh,zei,zej,zek,zel,zem,zen,zeo,zep,zeq,zer,zes,zet,zeu,zev,zew,zex,zey,ya,yb,yc,yd,ye,yf,ts_int,ts_int64,ts_bool,ts_ints,ts_post,ts_posts,yg,yh,yi,yj,yk,yl,ym,ts_intsl,ts_int64s,ts_bools,ts_side,ts_sideb,ts_pints,ts_pbool,aPure,aLen,nn,l0]
  cases pa with
  | none => simp only [zaa,zab,zac,zad,zae,zaf,zag,zah,zai,zaj,zak,zal,zam,zan,zao,zap,zaq,zar,zas,zat,zau,zav,zaw,zax,zay,zaz,zba,aUn,zbb,zbc,zbd,zbe,zbf,zbg,zbh,zbi,zbj,zbk,zbl,zbm,zbn,flat,simple,zbo,zbp,zbq,zbr,zbs,zbt,zbu,zbv,zbw,zbx,zby,zbz,zca,zcb,zcc,zcd,zce,zcf,zcg,zch,zci,zcj,zck,zcl,zcm,zcn,zco,zcp,zcq,zcr,Nat.reduceEqDiff,Nat.reduceLT,Nat.reduceAdd,Nat.reduceSub,reduceIte,Kt_P,zcs,zct,zcu,zcv,zcw,zcx,zcy,zcz,zda,zdb,zdc,zdd,zde,zdf,zdg,zdh,zdi,zdj,zdk,reduceCtorEq,zdl,zdm,zdn,goInt,zdo,zdp,zdq,zdr,zds,zdt,zdu,zdv,zdw,zdx,zdy,zdz,zea,zeb,zec,zed,zdk,zee,zef,zeg,zeh,zei,zej,zek,zel,zem,zen,zeo,zep,zeq,zer,zes,zet,zeu,zev,zew,zex,zey,ya,yb,yc,yd,ye,yf,ts_int,ts_int64,ts_bool,ts_ints,ts_post,ts_posts,yg,yh,yi,yj,yk,yl,ym,ts_intsl,ts_int64s,ts_bools,ts_side,ts_sideb,ts_pints,ts_pbool,aPure,aLen,zez,zfa,zfb,zfc,zbb,zbc]; exact hq A1 hE1
  | some a => simp only [zaa,zab,zac,zad,zae,zaf,zag,zah,zai,zaj,zak,zal,zam,zan,zao,zap,zaq,zar,zas,zat,zau,zav,zaw,zax,zay,zaz,zba,aUn,zbb,zbc,zbd,zbe,zbf,zbg,zbh,zbi,zbj,zbk,zbl,zbm,zbn,flat,simple,zbo,zbp,zbq,zbr,zbs,zbt,zbu,zbv,zbw,zbx,zby,zbz,zca,zcb,zcc,zcd,zce,zcf,zcg,zch,zci,zcj,zck,zcl,zcm,zcn,zco,zcp,zcq,zcr,Nat.reduceEqDiff,Nat.reduceLT,Nat.reduceAdd,Nat.reduceSub,reduceIte,Kt_P,zcs,zct,zcu,zcv,zcw,zcx,zcy,zcz,zda,zdb,zdc,zdd,zde,zdf,zdg,zdh,zdi,zdj,zdk,reduceCtorEq,zdl,zdm,zdn,goInt,zdo,zdp,zdq,zdr,zds,zdt,zdu,zdv,zdw,zdx,zdy,zdz,zea,zeb,zec,zed,zdk,zee,zef,zeg,zeh,zei,zej,zek,zel,zem,zen,zeo,zep,zeq,zer,zes,zet,zeu,zev,zew,zex,zey,ya,yb,yc,yd,ye,yf,ts_int,ts_int64,ts_bool,ts_ints,ts_post,ts_posts,yg,yh,yi,yj,yk,yl,ym,ts_intsl,ts_int64s,ts_bools,ts_side,ts_sideb,ts_pints,ts_pbool,aPure,aLen,zez,zfa,zfb,zfc,zbb,zbc,nn,l1]; exact hq A1 hE1

theorem sel_less : Sel 23 fun _ b => !b := by
  intro A pa pb oa ob ha hb Q hq
  refine Cal_of (nt := 6) (rs := [.tmp 2]) fn_less1 rfl rfl rfl (Nat.le_of_ble_eq_true rfl) ?_
  obtain ⟨pa, rfl, ka⟩ := ha.ptr
  obtain ⟨pb, rfl, kb⟩ := hb.ptr
  rw [← ka, ← kb] at hq
  have nn := fun c a => aBin_nil_eql (P := Tryz.prog) (c := c) Tryz.underlying64 a
  simp only [zaa,zab,zac,zad,zae,zaf,zag,zah,zai,zaj,zak,zal,zam,zan,zao,zap,zaq,zar,zas,zat,zau,zav,zaw,zax,zay,zaz,zba,aUn,zbb,zbc,zbd,zbe,zbf,zbg,zbh,zbi,zbj,zbk,zbl,zbm,zbn,flat,simple,zbo,zbp,zbq,zbr,zbs,zbt,zbu,zbv,zbw,zbx,zby,zbz,zca,zcb,zcc,zcd,zce,zcf,zcg,zch,zci,zcj,zck,zcl,zcm,zcn,zco,zcp,zcq,zcr,Nat.reduceEqDiff,Nat.reduceLT,Nat.reduceAdd,Nat.reduceSub,reduceIte,Kt_P,zcs,zct,zcu,zcv,zcw,zcx,zcy,zcz,zda,zdb,zdc,zdd,zde,zdf,zdg,zdh,zdi,zdj,zdk,reduceCtorEq,zdl,zdm,zdn,goInt,zdo,zdp,zdq,zdr,zds,zdt,zdu,zdv,zdw,zdx,zdy,zdz,zea,zeb,zec,zed,zdk,zee,zef,zeg,zeh,zei,zej,zek,zel,zem,zen,zeo,zep,zeq,zer,zes,zet,zeu,zev,zew,zex,zey,ya,yb,yc,yd,ye,yf,ts_int,ts_int64,ts_bool,ts_ints,ts_post,ts_posts,yg,yh,yi,yj,yk,yl,ym,ts_intsl,ts_int64s,ts_bools,ts_side,ts_sideb,ts_pints,ts_pbool,aPure,aLen]
  refine OpW_box_of ts_side rfl fun b1 A1 hb1 hn1 hE1 hB1 => ?_
  replace hB1 : Box A1 b1 66 [.pointer pa, .pointer pb] := hB1
  have l1 := hB1.load (P := Tryz.prog) (o := 1) (t := 64) Tryz.underlying64 rfl rfl
  simp only [zaa,zab,zac,zad,zae,zaf,zag,zah,zai,zaj,zak,zal,zam,zan,zao,zap,zaq,zar,zas,zat,zau,zav,zaw,zax,zay,zaz,zba,aUn,zbb,zbc,zbd,zbe,zbf,zbg,zbh,zbi,zbj,zbk,zbl,zbm,zbn,flat,simple,zbo,zbp,zbq,zbr,zbs,zbt,zbu,zbv,zbw,zbx,zby,zbz,zca,zcb,zcc,zcd,zce,zcf,zcg,zch,zci,zcj,zck,zcl,zcm,zcn,zco,zcp,zcq,zcr,Nat.reduceEqDiff,Nat.reduceLT,Nat.reduceAdd,Nat.reduceSub,reduceIte,Kt_P,zcs,zct,zcu,zcv,zcw,zcx,zcy,zcz,zda,zdb,zdc,zdd,zde,zdf,zdg,zdh,zdi,zdj,zdk,reduceCtorEq,zdl,zdm,zdn,goInt,zdo,zdp,zdq,zdr,zds,zdt,zdu,zdv,zdw,zdx,zdy,zdz,zea,zeb,zec,zed,zdk,zee,zef,zeg,zeh,zei,zej,zek,zel,zem,zen,zeo,zep,zeq,zer,zes,zet,zeu,zev,zew,zex,zey,ya,yb,yc,yd,ye,yf,ts_int,ts_int64,ts_bool,ts_ints,ts_post,ts_posts,yg,yh,yi,yj,yk,yl,ym,ts_intsl,ts_int64s,ts_bools,ts_side,ts_sideb,ts_pints,ts_pbool,aPure,aLen,nn,l1]
  have := hq A1 hE1
  cases pb <;> exact this

/-! ### kept -/
def keepOf (sel : Bool → Bool → Bool) (m : List (Int × Option (List Int) × Option (List Int))) : List PostL :=
  (m.filter fun x => sel x.2.1.isSome x.2.2.isSome).map fun x => (x.1, joinL (x.2.1.getD []) (x.2.2.getD []))
def keptL (sel : Bool → Bool → Bool) (a b : List PostL) : List PostL := keepOf sel (mrg a b)

theorem mem_mrg2 {X : Type} : ∀ (xs bs : List (Int × X)) (y : Int × Option X × Option X), y ∈ mrg xs bs → (∀ x, y.2.1 = some x → (y.1, x) ∈ xs) ∧ (∀ x, y.2.2 = some x → (y.1, x) ∈ bs)
  | [], bs, y, h => by
    simp only [mrg,List.mem_map] at h
    obtain ⟨b, hb, rfl⟩ := h
    exact ⟨fun x h => by simp at h, fun x h => by simp only [Option.some.injEq] at h; subst h; exact hb⟩
  | a :: xs, [], y, h => by
    rw [mrg_nilR, List.mem_cons] at h
    rcases h with rfl | h
    · exact ⟨fun x h => by simp only [Option.some.injEq] at h; subst h; simp, fun x h => by simp at h⟩
    · obtain ⟨h1, h2⟩ := mem_mrg2 xs [] y h
      exact ⟨fun x h => List.mem_cons_of_mem _ (h1 x h), h2⟩
  | a :: xs, b :: bs, y, h => by
    by_cases h1 : b.1 < a.1
    · rw [mrg_lt h1, List.mem_cons] at h
      rcases h with rfl | h
      · exact ⟨fun x h => by simp at h, fun x h => by simp only [Option.some.injEq] at h; subst h; simp⟩
      · obtain ⟨h1, h2⟩ := mem_mrg2 (a :: xs) bs y h
        exact ⟨h1, fun x h => List.mem_cons_of_mem _ (h2 x h)⟩
    · by_cases h2 : b.1 = a.1
      · rw [mrg_eq h2, List.mem_cons] at h
        rcases h with rfl | h
        · exact ⟨fun x h => by simp only [Option.some.injEq] at h; subst h; simp, fun x h => by simp only [Option.some.injEq] at h; subst h; rw [← h2]; simp⟩
        · obtain ⟨h1, h2⟩ := mem_mrg2 xs bs y h
          exact ⟨fun x h => List.mem_cons_of_mem _ (h1 x h), fun x h => List.mem_cons_of_mem _ (h2 x h)⟩
      · rw [mrg_gt (by omega), List.mem_cons] at h
        rcases h with rfl | h
        · exact ⟨fun x h => by simp only [Option.some.injEq] at h; subst h; simp, fun x h => by simp at h⟩
        · obtain ⟨h1, h2⟩ := mem_mrg2 xs (b :: bs) y h
          exact ⟨fun x h => List.mem_cons_of_mem _ (h1 x h), h2⟩
termination_by xs bs => xs.length + bs.length

theorem Posts.memI {A : AHeap} {v : Value} {l : List PostL} (h : Posts A v l) : ∀ p ∈ l, inI64 p.1 ∧ ∀ x ∈ p.2, inI64 x := by
  intro p hp
  obtain ⟨i, hi, rfl⟩ := List.getElem_of_mem hp
  obtain ⟨vs, h0, _, h2, _⟩ := h
  obtain ⟨h3, h4⟩ := h2 i hi (by omega)
  exact ⟨h4, h3.2.1⟩

theorem keep_succ (sel : Bool → Bool → Bool) (m : List (Int × Option (List Int) × Option (List Int))) (i : Nat) (hi : i < m.length) :
    keepOf sel (m.take (i + 1)) = keepOf sel (m.take i) ++ (if sel m[i].2.1.isSome m[i].2.2.isSome then [(m[i].1, joinL (m[i].2.1.getD []) (m[i].2.2.getD []))] else []) := by
  rw [List.take_succ_eq_append_getElem hi]
  unfold keepOf
  rw [List.filter_append, List.map_append]
  congr 1
  cases h : sel m[i].2.1.isSome m[i].2.2.isSome <;> simp [List.filter_cons, h]

theorem kept_ok (A : AHeap) (va vb : Value) (a b : List PostL) (g : FuncId) (sel : Bool → Bool → Bool) (hsel : Sel g sel) (hg : NotPrim g) (ha : Posts A va a) (hb : Posts A vb b)
    (la : a.length ≤ 100000) (lb : b.length ≤ 100000) (pa : ∀ p ∈ a, p.2.length ≤ 1000000) (pb : ∀ p ∈ b, p.2.length ≤ 1000000) (Q : Value → AHeap → Prop)
    (hq : ∀ v A', Ext A A' → (wfs a ∧ wfs b → PRes A A' v (keptL sel a b)) → (¬ (wfs a ∧ wfs b) → PRes A A' v []) → Q v A') : Cal Kt 20 #[va, vb, .func (.func g) #[] #[]] A Q := by
  refine Cal_of (nt := 36) (rs := [.tmp 6]) fn_kept rfl rfl rfl (Nat.le_of_ble_eq_true rfl) ?_
  simp only [zaa,zab,zac,zad,zae,zaf,zag,zah,zai,zaj,zak,zal,zam,zan,zao,zap,zaq,zar,zas,zat,zau,zav,zaw,zax,zay,zaz,zba,aUn,zbb,zbc,zbd,zbe,zbf,zbg,zbh,zbi,zbj,zbk,zbl,zbm,zbn,flat,simple,zbo,zbp,zbq,zbr,zbs,zbt,zbu,zbv,zbw,zbx,zby,zbz,zca,zcb,zcc,zcd,zce,zcf,zcg,zch,zci,zcj,zck,zcl,zcm,zcn,zco,zcp,zcq,zcr,Nat.reduceEqDiff,Nat.reduceLT,Nat.reduceAdd,Nat.reduceSub,reduceIte,Kt_P,zcs,zct,zcu,zcv,zcw,zcx,zcy,zcz,zda,zdb,zdc,zdd,zde,zdf,zdg,zdh,zdi,zdj,zdk,reduceCtorEq,zdl,zdm,zdn,goInt,zdo,zdp,zdq,zdr,zds,zdt,zdu,zdv,zdw,zdx,zdy,zdz,zea,zeb,zec,zed,zdk,zee,zef,zeg,zeh,zei,zej,zek,zel,zem,zen,zeo,zep,zeq,zer,zes,zet,zeu,zev,zew,zex,zey,ya,yb,yc,yd,ye,yf,ts_int,ts_int64,ts_bool,ts_ints,ts_post,ts_posts,yg,yh,yi,yj,yk,yl,ym,ts_intsl,ts_int64s,ts_bools,ts_side,ts_sideb,ts_pints,ts_pbool,aPure,aLen]
  refine OpW_box_of ts_fside rfl fun b5 A1 hb5 hn5 hE5 hB5 => ?_
  replace hB5 : Box A1 b5 67 [.func (.func g) #[] #[]] := hB5
  simp only [zaa,zab,zac,zad,zae,zaf,zag,zah,zai,zaj,zak,zal,zam,zan,zao,zap,zaq,zar,zas,zat,zau,zav,zaw,zax,zay,zaz,zba,aUn,zbb,zbc,zbd,zbe,zbf,zbg,zbh,zbi,zbj,zbk,zbl,zbm,zbn,flat,simple,zbo,zbp,zbq,zbr,zbs,zbt,zbu,zbv,zbw,zbx,zby,zbz,zca,zcb,zcc,zcd,zce,zcf,zcg,zch,zci,zcj,zck,zcl,zcm,zcn,zco,zcp,zcq,zcr,Nat.reduceEqDiff,Nat.reduceLT,Nat.reduceAdd,Nat.reduceSub,reduceIte,Kt_P,zcs,zct,zcu,zcv,zcw,zcx,zcy,zcz,zda,zdb,zdc,zdd,zde,zdf,zdg,zdh,zdi,zdj,zdk,reduceCtorEq,zdl,zdm,zdn,goInt,zdo,zdp,zdq,zdr,zds,zdt,zdu,zdv,zdw,zdx,zdy,zdz,zea,zeb,zec,zed,zdk,zee,zef,zeg,zeh,zei,zej,zek,zel,zem,zen,zeo,zep,zeq,zer,zes,zet,zeu,zev,zew,zex,zey,ya,yb,yc,yd,ye,yf,ts_int,ts_int64,ts_bool,ts_ints,ts_post,ts_posts,yg,yh,yi,yj,yk,yl,ym,ts_intsl,ts_int64s,ts_bools,ts_side,ts_sideb,ts_pints,ts_pbool,aPure,aLen]
  rw [CalF_cal (Kt_prim (by decide) _ _)]
  refine wrong_ok A1 va a (ha.fr hE5) _ fun r A2 hE2 hr => ?_
  simp only [zaa,zab,zac,zad,zae,zaf,zag,zah,zai,zaj,zak,zal,zam,zan,zao,zap,zaq,zar,zas,zat,zau,zav,zaw,zax,zay,zaz,zba,aUn,zbb,zbc,zbd,zbe,zbf,zbg,zbh,zbi,zbj,zbk,zbl,zbm,zbn,flat,simple,zbo,zbp,zbq,zbr,zbs,zbt,zbu,zbv,zbw,zbx,zby,zbz,zca,zcb,zcc,zcd,zce,zcf,zcg,zch,zci,zcj,zck,zcl,zcm,zcn,zco,zcp,zcq,zcr,Nat.reduceEqDiff,Nat.reduceLT,Nat.reduceAdd,Nat.reduceSub,reduceIte,Kt_P,zcs,zct,zcu,zcv,zcw,zcx,zcy,zcz,zda,zdb,zdc,zdd,zde,zdf,zdg,zdh,zdi,zdj,zdk,reduceCtorEq,zdl,zdm,zdn,goInt,zdo,zdp,zdq,zdr,zds,zdt,zdu,zdv,zdw,zdx,zdy,zdz,zea,zeb,zec,zed,zdk,zee,zef,zeg,zeh,zei,zej,zek,zel,zem,zen,zeo,zep,zeq,zer,zes,zet,zeu,zev,zew,zex,zey,ya,yb,yc,yd,ye,yf,ts_int,ts_int64,ts_bool,ts_ints,ts_post,ts_posts,yg,yh,yi,yj,yk,yl,ym,ts_intsl,ts_int64s,ts_bools,ts_side,ts_sideb,ts_pints,ts_pbool,aPure,aLen]
  rcases hr with ⟨rfl, wa⟩ | ⟨i, rfl, hi, hbad, _⟩
  · simp only [zaa,zab,zac,zad,zae,zaf,zag,zah,zai,zaj,zak,zal,zam,zan,zao,zap,zaq,zar,zas,zat,zau,zav,zaw,zax,zay,zaz,zba,aUn,zbb,zbc,zbd,zbe,zbf,zbg,zbh,zbi,zbj,zbk,zbl,zbm,zbn,flat,simple,zbo,zbp,zbq,zbr,zbs,zbt,zbu,zbv,zbw,zbx,zby,zbz,zca,zcb,zcc,zcd,zce,zcf,zcg,zch,zci,zcj,zck,zcl,zcm,zcn,zco,zcp,zcq,zcr,Nat.reduceEqDiff,Nat.reduceLT,Nat.reduceAdd,Nat.reduceSub,reduceIte,Kt_P,zcs,zct,zcu,zcv,zcw,zcx,zcy,zcz,zda,zdb,zdc,zdd,zde,zdf,zdg,zdh,zdi,zdj,zdk,reduceCtorEq,zdl,zdm,zdn,goInt,zdo,zdp,zdq,zdr,zds,zdt,zdu,zdv,zdw,zdx,zdy,zdz,zea,zeb,zec,zed,zdk,zee,zef,zeg,zeh,zei,zej,zek,zel,zem,zen,zeo,zep,zeq,zer,zes,zet,zeu,zev,zew,zex,zey,ya,yb,yc,yd,ye,yf,ts_int,ts_int64,ts_bool,ts_ints,ts_post,ts_posts,yg,yh,yi,yj,yk,yl,ym,ts_intsl,ts_int64s,ts_bools,ts_side,ts_sideb,ts_pints,ts_pbool,aPure,aLen,neg_nonneg]
    rw [CalF_cal (Kt_prim (by decide) _ _)]
    refine wrong_ok A2 vb b ((hb.fr hE5).fr hE2) _ fun r A3 hE3 hr => ?_
    simp only [zaa,zab,zac,zad,zae,zaf,zag,zah,zai,zaj,zak,zal,zam,zan,zao,zap,zaq,zar,zas,zat,zau,zav,zaw,zax,zay,zaz,zba,aUn,zbb,zbc,zbd,zbe,zbf,zbg,zbh,zbi,zbj,zbk,zbl,zbm,zbn,flat,simple,zbo,zbp,zbq,zbr,zbs,zbt,zbu,zbv,zbw,zbx,zby,zbz,zca,zcb,zcc,zcd,zce,zcf,zcg,zch,zci,zcj,zck,zcl,zcm,zcn,zco,zcp,zcq,zcr,Nat.reduceEqDiff,Nat.reduceLT,Nat.reduceAdd,Nat.reduceSub,reduceIte,Kt_P,zcs,zct,zcu,zcv,zcw,zcx,zcy,zcz,zda,zdb,zdc,zdd,zde,zdf,zdg,zdh,zdi,zdj,zdk,reduceCtorEq,zdl,zdm,zdn,goInt,zdo,zdp,zdq,zdr,zds,zdt,zdu,zdv,zdw,zdx,zdy,zdz,zea,zeb,zec,zed,zdk,zee,zef,zeg,zeh,zei,zej,zek,zel,zem,zen,zeo,zep,zeq,zer,zes,zet,zeu,zev,zew,zex,zey,ya,yb,yc,yd,ye,yf,ts_int,ts_int64,ts_bool,ts_ints,ts_post,ts_posts,yg,yh,yi,yj,yk,yl,ym,ts_intsl,ts_int64s,ts_bools,ts_side,ts_sideb,ts_pints,ts_pbool,aPure,aLen]
    have hE13 := (hE5.trans hE2).trans hE3
    rcases hr with ⟨rfl, wb⟩ | ⟨i, rfl, hi, hbad, _⟩
    · simp only [zaa,zab,zac,zad,zae,zaf,zag,zah,zai,zaj,zak,zal,zam,zan,zao,zap,zaq,zar,zas,zat,zau,zav,zaw,zax,zay,zaz,zba,aUn,zbb,zbc,zbd,zbe,zbf,zbg,zbh,zbi,zbj,zbk,zbl,zbm,zbn,flat,simple,zbo,zbp,zbq,zbr,zbs,zbt,zbu,zbv,zbw,zbx,zby,zbz,zca,zcb,zcc,zcd,zce,zcf,zcg,zch,zci,zcj,zck,zcl,zcm,zcn,zco,zcp,zcq,zcr,Nat.reduceEqDiff,Nat.reduceLT,Nat.reduceAdd,Nat.reduceSub,reduceIte,Kt_P,zcs,zct,zcu,zcv,zcw,zcx,zcy,zcz,zda,zdb,zdc,zdd,zde,zdf,zdg,zdh,zdi,zdj,zdk,reduceCtorEq,zdl,zdm,zdn,goInt,zdo,zdp,zdq,zdr,zds,zdt,zdu,zdv,zdw,zdx,zdy,zdz,zea,zeb,zec,zed,zdk,zee,zef,zeg,zeh,zei,zej,zek,zel,zem,zen,zeo,zep,zeq,zer,zes,zet,zeu,zev,zew,zex,zey,ya,yb,yc,yd,ye,yf,ts_int,ts_int64,ts_bool,ts_ints,ts_post,ts_posts,yg,yh,yi,yj,yk,yl,ym,ts_intsl,ts_int64s,ts_bools,ts_side,ts_sideb,ts_pints,ts_pbool,aPure,aLen,neg_nonneg]
      refine OpW_alloc_of ts_posts tz_posts rfl fun b7 A4 hb7 hn7 hE7 hB7 => ?_
      replace hB7 : Box A4 b7 22 [.slice none 0 0] := hB7
      simp only [zaa,zab,zac,zad,zae,zaf,zag,zah,zai,zaj,zak,zal,zam,zan,zao,zap,zaq,zar,zas,zat,zau,zav,zaw,zax,zay,zaz,zba,aUn,zbb,zbc,zbd,zbe,zbf,zbg,zbh,zbi,zbj,zbk,zbl,zbm,zbn,flat,simple,zbo,zbp,zbq,zbr,zbs,zbt,zbu,zbv,zbw,zbx,zby,zbz,zca,zcb,zcc,zcd,zce,zcf,zcg,zch,zci,zcj,zck,zcl,zcm,zcn,zco,zcp,zcq,zcr,Nat.reduceEqDiff,Nat.reduceLT,Nat.reduceAdd,Nat.reduceSub,reduceIte,Kt_P,zcs,zct,zcu,zcv,zcw,zcx,zcy,zcz,zda,zdb,zdc,zdd,zde,zdf,zdg,zdh,zdi,zdj,zdk,reduceCtorEq,zdl,zdm,zdn,goInt,zdo,zdp,zdq,zdr,zds,zdt,zdu,zdv,zdw,zdx,zdy,zdz,zea,zeb,zec,zed,zdk,zee,zef,zeg,zeh,zei,zej,zek,zel,zem,zen,zeo,zep,zeq,zer,zes,zet,zeu,zev,zew,zex,zey,ya,yb,yc,yd,ye,yf,ts_int,ts_int64,ts_bool,ts_ints,ts_post,ts_posts,yg,yh,yi,yj,yk,yl,ym,ts_intsl,ts_int64s,ts_bools,ts_side,ts_sideb,ts_pints,ts_pbool,aPure,aLen]
      have hE14 := hE13.trans hE7
      rw [CalF_cal (Kt_prim (by decide) _ _)]
      refine docs_ok A4 va a (ha.fr hE14) _ fun fa A5 ca hE8 hca1 hca2 ita => ?_
      simp only [zaa,zab,zac,zad,zae,zaf,zag,zah,zai,zaj,zak,zal,zam,zan,zao,zap,zaq,zar,zas,zat,zau,zav,zaw,zax,zay,zaz,zba,aUn,zbb,zbc,zbd,zbe,zbf,zbg,zbh,zbi,zbj,zbk,zbl,zbm,zbn,flat,simple,zbo,zbp,zbq,zbr,zbs,zbt,zbu,zbv,zbw,zbx,zby,zbz,zca,zcb,zcc,zcd,zce,zcf,zcg,zch,zci,zcj,zck,zcl,zcm,zcn,zco,zcp,zcq,zcr,Nat.reduceEqDiff,Nat.reduceLT,Nat.reduceAdd,Nat.reduceSub,reduceIte,Kt_P,zcs,zct,zcu,zcv,zcw,zcx,zcy,zcz,zda,zdb,zdc,zdd,zde,zdf,zdg,zdh,zdi,zdj,zdk,reduceCtorEq,zdl,zdm,zdn,goInt,zdo,zdp,zdq,zdr,zds,zdt,zdu,zdv,zdw,zdx,zdy,zdz,zea,zeb,zec,zed,zdk,zee,zef,zeg,zeh,zei,zej,zek,zel,zem,zen,zeo,zep,zeq,zer,zes,zet,zeu,zev,zew,zex,zey,ya,yb,yc,yd,ye,yf,ts_int,ts_int64,ts_bool,ts_ints,ts_post,ts_posts,yg,yh,yi,yj,yk,yl,ym,ts_intsl,ts_int64s,ts_bools,ts_side,ts_sideb,ts_pints,ts_pbool,aPure,aLen]
      rw [CalF_cal (Kt_prim (by decide) _ _)]
      refine docs_ok A5 vb b ((hb.fr hE14).fr hE8) _ fun fb A6 cb hE9 hcb1 hcb2 itb => ?_
      simp only [zaa,zab,zac,zad,zae,zaf,zag,zah,zai,zaj,zak,zal,zam,zan,zao,zap,zaq,zar,zas,zat,zau,zav,zaw,zax,zay,zaz,zba,aUn,zbb,zbc,zbd,zbe,zbf,zbg,zbh,zbi,zbj,zbk,zbl,zbm,zbn,flat,simple,zbo,zbp,zbq,zbr,zbs,zbt,zbu,zbv,zbw,zbx,zby,zbz,zca,zcb,zcc,zcd,zce,zcf,zcg,zch,zci,zcj,zck,zcl,zcm,zcn,zco,zcp,zcq,zcr,Nat.reduceEqDiff,Nat.reduceLT,Nat.reduceAdd,Nat.reduceSub,reduceIte,Kt_P,zcs,zct,zcu,zcv,zcw,zcx,zcy,zcz,zda,zdb,zdc,zdd,zde,zdf,zdg,zdh,zdi,zdj,zdk,reduceCtorEq,zdl,zdm,zdn,goInt,zdo,zdp,zdq,zdr,zds,zdt,zdu,zdv,zdw,zdx,zdy,zdz,zea,zeb,zec,zed,zdk,zee,zef,zeg,zeh,zei,zej,zek,zel,zem,zen,zeo,zep,zeq,zer,zes,zet,zeu,zev,zew,zex,zey,ya,yb,yc,yd,ye,yf,ts_int,ts_int64,ts_bool,ts_ints,ts_post,ts_posts,yg,yh,yi,yj,yk,yl,ym,ts_intsl,ts_int64s,ts_bools,ts_side,ts_sideb,ts_pints,ts_pbool,aPure,aLen]
      rw [CalF_cal (Kt_prim (by decide) _ _)]
      refine tog_ok A6 fa fb a b _ _ (ita.fr hE9 fun _ _ h => h) itb (by omega) _ fun fv A7 ba bb hE10 hba hbb it => ?_
      have h8n := hE8.next
      have h9n := hE9.next
      have h10n := hE10.next
      have hE47 : Ext A4 A7 := (hE8.trans hE9).trans hE10
      have hE07 : Ext A A7 := hE14.trans hE47
      have hB7' := hE47.box hB7 fun h => h
      have hB5' := (((hE2.trans hE3).trans hE7).trans hE47).box hB5 fun h => h
      have h5lt := hB5'.1
      have h2n := hE2.next
      have h3n := hE3.next
      have hlm := length_mrg a b
      simp only [zaa,zab,zac,zad,zae,zaf,zag,zah,zai,zaj,zak,zal,zam,zan,zao,zap,zaq,zar,zas,zat,zau,zav,zaw,zax,zay,zaz,zba,aUn,zbb,zbc,zbd,zbe,zbf,zbg,zbh,zbi,zbj,zbk,zbl,zbm,zbn,flat,simple,zbo,zbp,zbq,zbr,zbs,zbt,zbu,zbv,zbw,zbx,zby,zbz,zca,zcb,zcc,zcd,zce,zcf,zcg,zch,zci,zcj,zck,zcl,zcm,zcn,zco,zcp,zcq,zcr,Nat.reduceEqDiff,Nat.reduceLT,Nat.reduceAdd,Nat.reduceSub,reduceIte,Kt_P,zcs,zct,zcu,zcv,zcw,zcx,zcy,zcz,zda,zdb,zdc,zdd,zde,zdf,zdg,zdh,zdi,zdj,zdk,reduceCtorEq,zdl,zdm,zdn,goInt,zdo,zdp,zdq,zdr,zds,zdt,zdu,zdv,zdw,zdx,zdy,zdz,zea,zeb,zec,zed,zdk,zee,zef,zeg,zeh,zei,zej,zek,zel,zem,zen,zeo,zep,zeq,zer,zes,zet,zeu,zev,zew,zex,zey,ya,yb,yc,yd,ye,yf,ts_int,ts_int64,ts_bool,ts_ints,ts_post,ts_posts,yg,yh,yi,yj,yk,yl,ym,ts_intsl,ts_int64s,ts_bools,ts_side,ts_sideb,ts_pints,ts_pbool,aPure,aLen]
      refine range_of rfl it (by simp only [zaa,zab,zac,zad,zae,zaf,zag,zah,zai,zaj,zak,zal,zam,zan,zao,zap,zaq,zar,zas,zat,zau,zav,zaw,zax,zay,zaz,zba,aUn,zbb,zbc,zbd,zbe,zbf,zbg,zbh,zbi,zbj,zbk,zbl,zbm,zbn,flat,simple,zbo,zbp,zbq,zbr,zbs,zbt,zbu,zbv,zbw,zbx,zby,zbz,zca,zcb,zcc,zcd,zce,zcf,zcg,zch,zci,zcj,zck,zcl,zcm,zcn,zco,zcp,zcq,zcr,Nat.reduceEqDiff,Nat.reduceLT,Nat.reduceAdd,Nat.reduceSub,reduceIte,Kt_P,zcs,zct,zcu,zcv,zcw,zcx,zcy,zcz,zda,zdb,zdc,zdd,zde,zdf,zdg,zdh,zdi,zdj,zdk,reduceCtorEq,zdl,zdm,zdn,goInt,zdo,zdp,zdq,zdr,zds,zdt,zdu,zdv,zdw,zdx,zdy,zdz,zea,zeb,zec,zed,zdk,zee,zef,zeg,zeh,zei,zej,zek,zel,zem,zen,zeo,zep,zeq,zer,zes,zet,zeu,zev,zew,zex,zey,ya,yb,yc,yd,ye,yf,ts_int,ts_int64,ts_bool,ts_ints,ts_post,ts_posts,yg,yh,yi,yj,yk,yl,ym,ts_intsl,ts_int64s,ts_bools,ts_side,ts_sideb,ts_pints,ts_pbool,aPure,aLen]) (fun i W B => ∃ v vs, Box B b5 67 [.func (.func g) #[] #[]] ∧ Box B b7 22 [v] ∧
          POwn (fun b => W b ∧ A7.next < b) B v (keepOf sel ((mrg a b).take i)) vs ∧ W b7)
        (fun _ _ _ => False) (fun b => b = b7) ?_ ?_ ?_ (fun _ _ _ _ h _ => h) ?_ ?_ (fun _ _ _ _ _ _ _ h => h.elim)
      · intro B hE
        exact ⟨_, [], hE.box hB5' fun h => h, hE.box hB7' fun h => h, POwn.nil _ _, rfl⟩
      · rintro b rfl
        exact ⟨by omega, fun h => by rcases h with h | h | h | h <;> omega⟩
      · rintro i W B B' ⟨v, vs, k0, k1, k2, k5⟩ hK
        exact ⟨v, vs, hK.box k0 (.inl h5lt), hK.box k1 (.inl (by omega)), k2.keep hK fun b h => .inr h.1, k5⟩
      · rintro i W B ys hi ⟨v, vs, k0, k1, k2, k5⟩ hlt hWB ⟨him, qa, qb, rfl, hpa, hpb⟩ hrow
        refine ⟨rfl, _, rfl, ?_⟩
        obtain ⟨qa, rfl, hqa⟩ := hpa.ptr
        obtain ⟨qb, rfl, hqb⟩ := hpb.ptr
        simp only [zaa,zab,zac,zad,zae,zaf,zag,zah,zai,zaj,zak,zal,zam,zan,zao,zap,zaq,zar,zas,zat,zau,zav,zaw,zax,zay,zaz,zba,aUn,zbb,zbc,zbd,zbe,zbf,zbg,zbh,zbi,zbj,zbk,zbl,zbm,zbn,flat,simple,zbo,zbp,zbq,zbr,zbs,zbt,zbu,zbv,zbw,zbx,zby,zbz,zca,zcb,zcc,zcd,zce,zcf,zcg,zch,zci,zcj,zck,zcl,zcm,zcn,zco,zcp,zcq,zcr,Nat.reduceEqDiff,Nat.reduceLT,Nat.reduceAdd,Nat.reduceSub,reduceIte,Kt_P,zcs,zct,zcu,zcv,zcw,zcx,zcy,zcz,zda,zdb,zdc,zdd,zde,zdf,zdg,zdh,zdi,zdj,zdk,reduceCtorEq,zdl,zdm,zdn,goInt,zdo,zdp,zdq,zdr,zds,zdt,zdu,zdv,zdw,zdx,zdy,zdz,zea,zeb,zec,zed,zdk,zee,zef,zeg,zeh,zei,zej,zek,zel,zem,zen,zeo,zep,zeq,zer,zes,zet,zeu,zev,zew,zex,zey,ya,yb,yc,yd,ye,yf,ts_int,ts_int64,ts_bool,ts_ints,ts_post,ts_posts,yg,yh,yi,yj,yk,yl,ym,ts_intsl,ts_int64s,ts_bools,ts_side,ts_sideb,ts_pints,ts_pbool,aPure,aLen]
        refine OpW_alloc_of ts_side tz_side rfl fun b9 B1 hb9 hm1 hF1 hB9 => ?_
        simp only [zaa,zab,zac,zad,zae,zaf,zag,zah,zai,zaj,zak,zal,zam,zan,zao,zap,zaq,zar,zas,zat,zau,zav,zaw,zax,zay,zaz,zba,aUn,zbb,zbc,zbd,zbe,zbf,zbg,zbh,zbi,zbj,zbk,zbl,zbm,zbn,flat,simple,zbo,zbp,zbq,zbr,zbs,zbt,zbu,zbv,zbw,zbx,zby,zbz,zca,zcb,zcc,zcd,zce,zcf,zcg,zch,zci,zcj,zck,zcl,zcm,zcn,zco,zcp,zcq,zcr,Nat.reduceEqDiff,Nat.reduceLT,Nat.reduceAdd,Nat.reduceSub,reduceIte,Kt_P,zcs,zct,zcu,zcv,zcw,zcx,zcy,zcz,zda,zdb,zdc,zdd,zde,zdf,zdg,zdh,zdi,zdj,zdk,reduceCtorEq,zdl,zdm,zdn,goInt,zdo,zdp,zdq,zdr,zds,zdt,zdu,zdv,zdw,zdx,zdy,zdz,zea,zeb,zec,zed,zdk,zee,zef,zeg,zeh,zei,zej,zek,zel,zem,zen,zeo,zep,zeq,zer,zes,zet,zeu,zev,zew,zex,zey,ya,yb,yc,yd,ye,yf,ts_int,ts_int64,ts_bool,ts_ints,ts_post,ts_posts,yg,yh,yi,yj,yk,yl,ym,ts_intsl,ts_int64s,ts_bools,ts_side,ts_sideb,ts_pints,ts_pbool,aPure,aLen]
        refine OpW_store_of (o := 0) hB9 ⟨rfl, rfl⟩ rfl ts_side (Nat.le_refl _) rfl fun B2 hm2 hF2 hB10 => ?_
        replace hB10 : Box B2 b9 66 [.pointer qa, .pointer qb] := hB10
        simp only [zaa,zab,zac,zad,zae,zaf,zag,zah,zai,zaj,zak,zal,zam,zan,zao,zap,zaq,zar,zas,zat,zau,zav,zaw,zax,zay,zaz,zba,aUn,zbb,zbc,zbd,zbe,zbf,zbg,zbh,zbi,zbj,zbk,zbl,zbm,zbn,flat,simple,zbo,zbp,zbq,zbr,zbs,zbt,zbu,zbv,zbw,zbx,zby,zbz,zca,zcb,zcc,zcd,zce,zcf,zcg,zch,zci,zcj,zck,zcl,zcm,zcn,zco,zcp,zcq,zcr,Nat.reduceEqDiff,Nat.reduceLT,Nat.reduceAdd,Nat.reduceSub,reduceIte,Kt_P,zcs,zct,zcu,zcv,zcw,zcx,zcy,zcz,zda,zdb,zdc,zdd,zde,zdf,zdg,zdh,zdi,zdj,zdk,reduceCtorEq,zdl,zdm,zdn,goInt,zdo,zdp,zdq,zdr,zds,zdt,zdu,zdv,zdw,zdx,zdy,zdz,zea,zeb,zec,zed,zdk,zee,zef,zeg,zeh,zei,zej,zek,zel,zem,zen,zeo,zep,zeq,zer,zes,zet,zeu,zev,zew,zex,zey,ya,yb,yc,yd,ye,yf,ts_int,ts_int64,ts_bool,ts_ints,ts_post,ts_posts,yg,yh,yi,yj,yk,yl,ym,ts_intsl,ts_int64s,ts_bools,ts_side,ts_sideb,ts_pints,ts_pbool,aPure,aLen]
        have hEE : Ext B B2 := Fr.trans hF1 hF2 fun b hb hc => by omega
        refine ⟨hEE, fun C hCn hCF => ?_⟩
        have hrow2 : arow B2 A7.next = none := by unfold arow; rw [hEE.same _ hlt fun h => h]; exact hrow
        have hBC : Fr (fun j => j = A7.next) B C := Fr.trans hEE.fr hCF fun _ _ h => h
        replace hpa := (hpa.ext Ints_dk hEE fun _ h => h.elim).ext Ints_dk hCF fun b h => .inr (by rw [h]; exact hrow2)
        replace hpb := (hpb.ext Ints_dk hEE fun _ h => h.elim).ext Ints_dk hCF fun b h => .inr (by rw [h]; exact hrow2)
        replace k0 := hBC.box k0 (by omega)
        replace k1 := hBC.box k1 (by omega)
        have hBn := hBC.next
        replace k2 := k2.fr hBC fun b _ h => (hWB b h.1).2.2.1
        replace hB10 := hCF.box hB10 (by omega)
        have l5 := k0.load (P := Tryz.prog) (o := 0) (t := 67) Tryz.underlying67 rfl rfl
        have l9 : aLoadVar Tryz.prog C 66 (.pointer (some ⟨b9, 0, none⟩)) = some (.agg #[.pointer qa, .pointer qb]) := hB10.loadAgg (o := 0) Tryz.underlying66 rfl ts_side (Nat.le_refl _)
        simp only [zaa,zab,zac,zad,zae,zaf,zag,zah,zai,zaj,zak,zal,zam,zan,zao,zap,zaq,zar,zas,zat,zau,zav,zaw,zax,zay,zaz,zba,aUn,zbb,zbc,zbd,zbe,zbf,zbg,zbh,zbi,zbj,zbk,zbl,zbm,zbn,flat,simple,zbo,zbp,zbq,zbr,zbs,zbt,zbu,zbv,zbw,zbx,zby,zbz,zca,zcb,zcc,zcd,zce,zcf,zcg,zch,zci,zcj,zck,zcl,zcm,zcn,zco,zcp,zcq,zcr,Nat.reduceEqDiff,Nat.reduceLT,Nat.reduceAdd,Nat.reduceSub,reduceIte,Kt_P,zcs,zct,zcu,zcv,zcw,zcx,zcy,zcz,zda,zdb,zdc,zdd,zde,zdf,zdg,zdh,zdi,zdj,zdk,reduceCtorEq,zdl,zdm,zdn,goInt,zdo,zdp,zdq,zdr,zds,zdt,zdu,zdv,zdw,zdx,zdy,zdz,zea,zeb,zec,zed,zdk,zee,zef,zeg,zeh,zei,zej,zek,zel,zem,zen,zeo,zep,zeq,zer,zes,zet,zeu,zev,zew,zex,zey,ya,yb,yc,yd,ye,yf,ts_int,ts_int64,ts_bool,ts_ints,ts_post,ts_posts,yg,yh,yi,yj,yk,yl,ym,ts_intsl,ts_int64s,ts_bools,ts_side,ts_sideb,ts_pints,ts_pbool,aPure,aLen,l5,l9]
        rw [CalF_cal (Kt_prim hg _ _)]
        refine hsel C _ _ _ _ hpa hpb _ fun C1 hC1 => ?_
        simp only [zaa,zab,zac,zad,zae,zaf,zag,zah,zai,zaj,zak,zal,zam,zan,zao,zap,zaq,zar,zas,zat,zau,zav,zaw,zax,zay,zaz,zba,aUn,zbb,zbc,zbd,zbe,zbf,zbg,zbh,zbi,zbj,zbk,zbl,zbm,zbn,flat,simple,zbo,zbp,zbq,zbr,zbs,zbt,zbu,zbv,zbw,zbx,zby,zbz,zca,zcb,zcc,zcd,zce,zcf,zcg,zch,zci,zcj,zck,zcl,zcm,zcn,zco,zcp,zcq,zcr,Nat.reduceEqDiff,Nat.reduceLT,Nat.reduceAdd,Nat.reduceSub,reduceIte,Kt_P,zcs,zct,zcu,zcv,zcw,zcx,zcy,zcz,zda,zdb,zdc,zdd,zde,zdf,zdg,zdh,zdi,zdj,zdk,reduceCtorEq,zdl,zdm,zdn,goInt,zdo,zdp,zdq,zdr,zds,zdt,zdu,zdv,zdw,zdx,zdy,zdz,zea,zeb,zec,zed,zdk,zee,zef,zeg,zeh,zei,zej,zek,zel,zem,zen,zeo,zep,zeq,zer,zes,zet,zeu,zev,zew,zex,zey,ya,yb,yc,yd,ye,yf,ts_int,ts_int64,ts_bool,ts_ints,ts_post,ts_posts,yg,yh,yi,yj,yk,yl,ym,ts_intsl,ts_int64s,ts_bools,ts_side,ts_sideb,ts_pints,ts_pbool,aPure,aLen]
        have ks := keep_succ sel (mrg a b) i him
        refine Way_ofB (fun hs => ?_) (fun hs => ?_)
        · rw [hs, if_pos rfl] at ks
          have k0' := hC1.box k0 fun h => h
          have k1' := hC1.box k1 fun h => h
          have hB11 := hC1.box hB10 fun h => h
          have l7 := k1'.load (P := Tryz.prog) (o := 0) (t := 22) Tryz.underlying22 rfl rfl
          have l9' : aLoadVar Tryz.prog C1 66 (.pointer (some ⟨b9, 0, none⟩)) = some (.agg #[.pointer qa, .pointer qb]) := hB11.loadAgg (o := 0) Tryz.underlying66 rfl ts_side (Nat.le_refl _)
          refine Cod_draw_of (l := [(0, 3), (0, 5)]) (by kernel_rfl) (by kernel_rfl) ?_
          simp only [zaa,zab,zac,zad,zae,zaf,zag,zah,zai,zaj,zak,zal,zam,zan,zao,zap,zaq,zar,zas,zat,zau,zav,zaw,zax,zay,zaz,zba,aUn,zbb,zbc,zbd,zbe,zbf,zbg,zbh,zbi,zbj,zbk,zbl,zbm,zbn,flat,simple,zbo,zbp,zbq,zbr,zbs,zbt,zbu,zbv,zbw,zbx,zby,zbz,zca,zcb,zcc,zcd,zce,zcf,zcg,zch,zci,zcj,zck,zcl,zcm,zcn,zco,zcp,zcq,zcr,Nat.reduceEqDiff,Nat.reduceLT,Nat.reduceAdd,Nat.reduceSub,reduceIte,Kt_P,zcs,zct,zcu,zcv,zcw,zcx,zcy,zcz,zda,zdb,zdc,zdd,zde,zdf,zdg,zdh,zdi,zdj,zdk,reduceCtorEq,zdl,zdm,zdn,goInt,zdo,zdp,zdq,zdr,zds,zdt,zdu,zdv,zdw,zdx,zdy,zdz,zea,zeb,zec,zed,zdk,zee,zef,zeg,zeh,zei,zej,zek,zel,zem,zen,zeo,zep,zeq,zer,zes,zet,zeu,zev,zew,zex,zey,ya,yb,yc,yd,ye,yf,ts_int,ts_int64,ts_bool,ts_ints,ts_post,ts_posts,yg,yh,yi,yj,yk,yl,ym,ts_intsl,ts_int64s,ts_bools,ts_side,ts_sideb,ts_pints,ts_pbool,aPure,aLen,Trc_cons,Trc_nil,l7,l9']
          rw [CalF_cal (Kt_prim (by decide) _ _)]
          have hmem := mem_mrg2 a b _ (List.getElem_mem him)
          refine joined_ok C1 _ _ _ _ (hpa.ext Ints_dk hC1 fun _ h => h.elim) (hpb.ext Ints_dk hC1 fun _ h => h.elim) (fun x hx => pa _ (hmem.1 x hx)) (fun x hx => pb _ (hmem.2 x hx)) _ fun u C2 hC2 hu => ?_
          obtain ⟨uo, un, uc, rfl⟩ := hu.ints.isSlice
          simp only [zaa,zab,zac,zad,zae,zaf,zag,zah,zai,zaj,zak,zal,zam,zan,zao,zap,zaq,zar,zas,zat,zau,zav,zaw,zax,zay,zaz,zba,aUn,zbb,zbc,zbd,zbe,zbf,zbg,zbh,zbi,zbj,zbk,zbl,zbm,zbn,flat,simple,zbo,zbp,zbq,zbr,zbs,zbt,zbu,zbv,zbw,zbx,zby,zbz,zca,zcb,zcc,zcd,zce,zcf,zcg,zch,zci,zcj,zck,zcl,zcm,zcn,zco,zcp,zcq,zcr,Nat.reduceEqDiff,Nat.reduceLT,Nat.reduceAdd,Nat.reduceSub,reduceIte,Kt_P,zcs,zct,zcu,zcv,zcw,zcx,zcy,zcz,zda,zdb,zdc,zdd,zde,zdf,zdg,zdh,zdi,zdj,zdk,reduceCtorEq,zdl,zdm,zdn,goInt,zdo,zdp,zdq,zdr,zds,zdt,zdu,zdv,zdw,zdx,zdy,zdz,zea,zeb,zec,zed,zdk,zee,zef,zeg,zeh,zei,zej,zek,zel,zem,zen,zeo,zep,zeq,zer,zes,zet,zeu,zev,zew,zex,zey,ya,yb,yc,yd,ye,yf,ts_int,ts_int64,ts_bool,ts_ints,ts_post,ts_posts,yg,yh,yi,yj,yk,yl,ym,ts_intsl,ts_int64s,ts_bools,ts_side,ts_sideb,ts_pints,ts_pbool,aPure,aLen,Trc_cons,Trc_nil,build_post]
          refine OpW_buildSlice_of (cs := [.int .i64 (mrg a b)[i].1, .slice uo un uc]) Tryz.underlying22 ts_post tz_post (by decide) rfl rfl rfl fun q1 C3 hq1 hm3 hF3 hQ1 => ?_
          simp only [zaa,zab,zac,zad,zae,zaf,zag,zah,zai,zaj,zak,zal,zam,zan,zao,zap,zaq,zar,zas,zat,zau,zav,zaw,zax,zay,zaz,zba,aUn,zbb,zbc,zbd,zbe,zbf,zbg,zbh,zbi,zbj,zbk,zbl,zbm,zbn,flat,simple,zbo,zbp,zbq,zbr,zbs,zbt,zbu,zbv,zbw,zbx,zby,zbz,zca,zcb,zcc,zcd,zce,zcf,zcg,zch,zci,zcj,zck,zcl,zcm,zcn,zco,zcp,zcq,zcr,Nat.reduceEqDiff,Nat.reduceLT,Nat.reduceAdd,Nat.reduceSub,reduceIte,Kt_P,zcs,zct,zcu,zcv,zcw,zcx,zcy,zcz,zda,zdb,zdc,zdd,zde,zdf,zdg,zdh,zdi,zdj,zdk,reduceCtorEq,zdl,zdm,zdn,goInt,zdo,zdp,zdq,zdr,zds,zdt,zdu,zdv,zdw,zdx,zdy,zdz,zea,zeb,zec,zed,zdk,zee,zef,zeg,zeh,zei,zej,zek,zel,zem,zen,zeo,zep,zeq,zer,zes,zet,zeu,zev,zew,zex,zey,ya,yb,yc,yd,ye,yf,ts_int,ts_int64,ts_bool,ts_ints,ts_post,ts_posts,yg,yh,yi,yj,yk,yl,ym,ts_intsl,ts_int64s,ts_bools,ts_side,ts_sideb,ts_pints,ts_pbool,aPure,aLen,Trc_cons,Trc_nil]
          have k3' := ((k2.2.1.fr hC1 fun _ _ h => h).fr hC2 fun _ _ h => h).fr hF3 fun _ _ h => h
          have k2' : (keepOf sel ((mrg a b).take i)).length ≤ 200000 := by
            have h1 : (keepOf sel ((mrg a b).take i)).length ≤ ((mrg a b).take i).length := by unfold keepOf; rw [List.length_map]; exact List.length_filter_le _ _
            have h2 : ((mrg a b).take i).length ≤ (mrg a b).length := by rw [List.length_take]; omega
            omega
          refine OpW_append_of (n := (keepOf sel ((mrg a b).take i)).length) (k := 1) ⟨rfl, rfl⟩ Tryz.underlying22 (by rw [Kt_P, Tryz.underlying22]; rfl) ts_post tb_post tz_post (by simp only [zaa,zab,zac,zad,zae,zaf,zag,zah,zai,zaj,zak,zal,zam,zan,zao,zap,zaq,zar,zas,zat,zau,zav,zaw,zax,zay,zaz,zba,aUn,zbb,zbc,zbd,zbe,zbf,zbg,zbh,zbi,zbj,zbk,zbl,zbm,zbn,flat,simple,zbo,zbp,zbq,zbr,zbs,zbt,zbu,zbv,zbw,zbx,zby,zbz,zca,zcb,zcc,zcd,zce,zcf,zcg,zch,zci,zcj,zck,zcl,zcm,zcn,zco,zcp,zcq,zcr,Nat.reduceEqDiff,Nat.reduceLT,Nat.reduceAdd,Nat.reduceSub,reduceIte,Kt_P,zcs,zct,zcu,zcv,zcw,zcx,zcy,zcz,zda,zdb,zdc,zdd,zde,zdf,zdg,zdh,zdi,zdj,zdk,reduceCtorEq,zdl,zdm,zdn,goInt,zdo,zdp,zdq,zdr,zds,zdt,zdu,zdv,zdw,zdx,zdy,zdz,zea,zeb,zec,zed,zdk,zee,zef,zeg,zeh,zei,zej,zek,zel,zem,zen,zeo,zep,zeq,zer,zes,zet,zeu,zev,zew,zex,zey,ya,yb,yc,yd,ye,yf,ts_int,ts_int64,ts_bool,ts_ints,ts_post,ts_posts,yg,yh,yi,yj,yk,yl,ym,ts_intsl,ts_int64s,ts_bools,ts_side,ts_sideb,ts_pints,ts_pbool,aPure,aLen]; exact aSrc_box hQ1 rfl) ⟨rfl, rfl⟩ (by omega)
            ⟨by omega, rfl, by omega, by omega⟩ k3' fun q2 C4 hq2 hm4 hF4 hA4 => ?_
          simp only [zaa,zab,zac,zad,zae,zaf,zag,zah,zai,zaj,zak,zal,zam,zan,zao,zap,zaq,zar,zas,zat,zau,zav,zaw,zax,zay,zaz,zba,aUn,zbb,zbc,zbd,zbe,zbf,zbg,zbh,zbi,zbj,zbk,zbl,zbm,zbn,flat,simple,zbo,zbp,zbq,zbr,zbs,zbt,zbu,zbv,zbw,zbx,zby,zbz,zca,zcb,zcc,zcd,zce,zcf,zcg,zch,zci,zcj,zck,zcl,zcm,zcn,zco,zcp,zcq,zcr,Nat.reduceEqDiff,Nat.reduceLT,Nat.reduceAdd,Nat.reduceSub,reduceIte,Kt_P,zcs,zct,zcu,zcv,zcw,zcx,zcy,zcz,zda,zdb,zdc,zdd,zde,zdf,zdg,zdh,zdi,zdj,zdk,reduceCtorEq,zdl,zdm,zdn,goInt,zdo,zdp,zdq,zdr,zds,zdt,zdu,zdv,zdw,zdx,zdy,zdz,zea,zeb,zec,zed,zdk,zee,zef,zeg,zeh,zei,zej,zek,zel,zem,zen,zeo,zep,zeq,zer,zes,zet,zeu,zev,zew,zex,zey,ya,yb,yc,yd,ye,yf,ts_int,ts_int64,ts_bool,ts_ints,ts_post,ts_posts,yg,yh,yi,yj,yk,yl,ym,ts_intsl,ts_int64s,ts_bools,ts_side,ts_sideb,ts_pints,ts_pbool,aPure,aLen,Trc_cons,Trc_nil] at hF4 hA4 ⊢
          have nk : ∀ b, b ≤ A7.next → ¬ blockOf v b := fun b hb h => by have := (k2.2.2.1 b h).2; omega
          have hC13 : Ext C1 C3 := hC2.trans hF3
          have k1'' := hF4.box (hC13.box k1' fun h => h) (nk b7 (by omega))
          refine OpW_store_of (o := 0) k1'' ⟨rfl, rfl⟩ (by simp only [zaa,zab,zac,zad,zae,zaf,zag,zah,zai,zaj,zak,zal,zam,zan,zao,zap,zaq,zar,zas,zat,zau,zav,zaw,zax,zay,zaz,zba,aUn,zbb,zbc,zbd,zbe,zbf,zbg,zbh,zbi,zbj,zbk,zbl,zbm,zbn,flat,simple,zbo,zbp,zbq,zbr,zbs,zbt,zbu,zbv,zbw,zbx,zby,zbz,zca,zcb,zcc,zcd,zce,zcf,zcg,zch,zci,zcj,zck,zcl,zcm,zcn,zco,zcp,zcq,zcr,Nat.reduceEqDiff,Nat.reduceLT,Nat.reduceAdd,Nat.reduceSub,reduceIte,Kt_P,zcs,zct,zcu,zcv,zcw,zcx,zcy,zcz,zda,zdb,zdc,zdd,zde,zdf,zdg,zdh,zdi,zdj,zdk,reduceCtorEq,zdl,zdm,zdn,goInt,zdo,zdp,zdq,zdr,zds,zdt,zdu,zdv,zdw,zdx,zdy,zdz,zea,zeb,zec,zed,zdk,zee,zef,zeg,zeh,zei,zej,zek,zel,zem,zen,zeo,zep,zeq,zer,zes,zet,zeu,zev,zew,zex,zey,ya,yb,yc,yd,ye,yf,ts_int,ts_int64,ts_bool,ts_ints,ts_post,ts_posts,yg,yh,yi,yj,yk,yl,ym,ts_intsl,ts_int64s,ts_bools,ts_side,ts_sideb,ts_pints,ts_pbool,aPure,aLen]) ts_posts (Nat.le_refl _) rfl fun C5 hm5 hF5 hB12 => ?_
          replace hB12 : Box C5 b7 22 [.slice (some ⟨q2, 0, none⟩) ((keepOf sel ((mrg a b).take i)).length + 1) ((keepOf sel ((mrg a b).take i)).length + 1)] := hB12
          simp only [zaa,zab,zac,zad,zae,zaf,zag,zah,zai,zaj,zak,zal,zam,zan,zao,zap,zaq,zar,zas,zat,zau,zav,zaw,zax,zay,zaz,zba,aUn,zbb,zbc,zbd,zbe,zbf,zbg,zbh,zbi,zbj,zbk,zbl,zbm,zbn,flat,simple,zbo,zbp,zbq,zbr,zbs,zbt,zbu,zbv,zbw,zbx,zby,zbz,zca,zcb,zcc,zcd,zce,zcf,zcg,zch,zci,zcj,zck,zcl,zcm,zcn,zco,zcp,zcq,zcr,Nat.reduceEqDiff,Nat.reduceLT,Nat.reduceAdd,Nat.reduceSub,reduceIte,Kt_P,zcs,zct,zcu,zcv,zcw,zcx,zcy,zcz,zda,zdb,zdc,zdd,zde,zdf,zdg,zdh,zdi,zdj,zdk,reduceCtorEq,zdl,zdm,zdn,goInt,zdo,zdp,zdq,zdr,zds,zdt,zdu,zdv,zdw,zdx,zdy,zdz,zea,zeb,zec,zed,zdk,zee,zef,zeg,zeh,zei,zej,zek,zel,zem,zen,zeo,zep,zeq,zer,zes,zet,zeu,zev,zew,zex,zey,ya,yb,yc,yd,ye,yf,ts_int,ts_int64,ts_bool,ts_ints,ts_post,ts_posts,yg,yh,yi,yj,yk,yl,ym,ts_intsl,ts_int64s,ts_bools,ts_side,ts_sideb,ts_pints,ts_pbool,aPure,aLen,Trc_cons,Trc_nil]
          refine ⟨?_, ?_⟩
          · have l72 := (hC2.box k1' fun h => h).load (P := Tryz.prog) (o := 0) (t := 22) Tryz.underlying22 rfl rfl
            have l73 := (hC13.box k1' fun h => h).load (P := Tryz.prog) (o := 0) (t := 22) Tryz.underlying22 rfl rfl
            intro ip hip
            simp only [List.mem_cons,List.not_mem_nil,or_false] at hip
            rcases hip with rfl | rfl
            · exact stable_load Kt_same rfl rfl rfl rfl l72
            · exact stable_load Kt_same rfl rfl rfl rfl l73
          · have hCC : Fr (fun b => W b ∨ B.next ≤ b) C C5 := Fr.trans (Fr.trans (W' := blockOf v) (hC1.trans hC13).fr hF4 fun b _ h => .inl (k2.2.2.1 b h).1) hF5 fun b _ h => .inl (by rw [h]; exact k5)
            have hCM : Fr (fun b => blockOf v b ∨ b = b7) C C5 := Fr.trans (Fr.trans (W' := blockOf v) (hC1.trans hC13).fr hF4 fun b _ h => .inl h) hF5 fun b _ h => .inr h
            have hdoc : inI64 (mrg a b)[i].1 := by
              rcases mem_mrg a b _ (List.getElem_mem him) with h | h
              · obtain ⟨p, hp, h⟩ := List.mem_map.1 h
                rw [← h]; exact (ha.memI p hp).1
              · obtain ⟨p, hp, h⟩ := List.mem_map.1 h
                rw [← h]; exact (hb.memI p hp).1
            have n1 := hC1.next
            have n2 := hC2.next
            have hv := k2.lt.1
            have hul := hu.1.lt
            have hub := hu.2.2.2
            have hu5 := ((hu.ext hF3).fr hF4 fun b h hc => by have := hv b hc; have := hub b h; omega).fr hF5 fun b h hc => by have := hub b h; omega
            have k0'' := hF5.box (hF4.box (hC13.box k0' fun h => h) (nk b5 (by omega))) (by omega)
            have hA5 := hA4.fr hF5 fun b h => by simp only [blockOf] at h; omega
            refine ⟨hCC, fun _ => ?_, fun h => by first | exact absurd rfl h | exact False.elim h⟩
            generalize keepOf sel ((mrg a b).take (i + 1)) = L' at ks ⊢
            subst ks
            refine ⟨_, vs ++ [.slice uo un uc], k0'', hB12, k2.snoc hCM (fun j hj b hb hc => hc.elim ((k2.2.2.2.1 j (by rw [← k2.1]; exact hj) hj).2.2 b hb) fun h => by have := ((k2.2.2.2.1 j (by rw [← k2.1]; exact hj) hj).1.2.2.2 b hb).2; omega) hA5
              (hu5.mono fun b hb1 hb2 => ?_) hdoc (fun b hb => ?_) (fun b hb => ?_) fun b hb h => ⟨.inl h.1, h.2⟩, .inl k5⟩
            · have := hul b hb1
              exact ⟨.inr ⟨by omega, by omega⟩, by omega⟩
            · have := hub b hb
              have := hul b hb
              exact ⟨by omega, fun hc => by simp only [blockOf] at hc; omega⟩
            · simp only [blockOf] at hb
              exact ⟨by omega, .inr ⟨by omega, by omega⟩, by omega⟩
        · rw [hs, if_neg (by simp), List.append_nil] at ks
          simp only [zaa,zab,zac,zad,zae,zaf,zag,zah,zai,zaj,zak,zal,zam,zan,zao,zap,zaq,zar,zas,zat,zau,zav,zaw,zax,zay,zaz,zba,aUn,zbb,zbc,zbd,zbe,zbf,zbg,zbh,zbi,zbj,zbk,zbl,zbm,zbn,flat,simple,zbo,zbp,zbq,zbr,zbs,zbt,zbu,zbv,zbw,zbx,zby,zbz,zca,zcb,zcc,zcd,zce,zcf,zcg,zch,zci,zcj,zck,zcl,zcm,zcn,zco,zcp,zcq,zcr,Nat.reduceEqDiff,Nat.reduceLT,Nat.reduceAdd,Nat.reduceSub,reduceIte,Kt_P,zcs,zct,zcu,zcv,zcw,zcx,zcy,zcz,zda,zdb,zdc,zdd,zde,zdf,zdg,zdh,zdi,zdj,zdk,reduceCtorEq,zdl,zdm,zdn,goInt,zdo,zdp,zdq,zdr,zds,zdt,zdu,zdv,zdw,zdx,zdy,zdz,zea,zeb,zec,zed,zdk,zee,zef,zeg,zeh,zei,zej,zek,zel,zem,zen,zeo,zep,zeq,zer,zes,zet,zeu,zev,zew,zex,zey,ya,yb,yc,yd,ye,yf,ts_int,ts_int64,ts_bool,ts_ints,ts_post,ts_posts,yg,yh,yi,yj,yk,yl,ym,ts_intsl,ts_int64s,ts_bools,ts_side,ts_sideb,ts_pints,ts_pbool,aPure,aLen]
          refine ⟨hC1.fr, fun _ => ?_, fun h => by first | exact absurd rfl h | exact False.elim h⟩
          rw [ks]
          exact ⟨v, vs, hC1.box k0 fun h => h, hC1.box k1 fun h => h, (k2.ext hC1).mono fun b _ h => ⟨.inl h.1, h.2⟩, .inl k5⟩
      · rintro W B hlt hF hWB ⟨v, vs, k0, k1, k2, k5⟩
        have l7 := k1.load (P := Tryz.prog) (o := 0) (t := 22) Tryz.underlying22 rfl rfl
        simp only [zaa,zab,zac,zad,zae,zaf,zag,zah,zai,zaj,zak,zal,zam,zan,zao,zap,zaq,zar,zas,zat,zau,zav,zaw,zax,zay,zaz,zba,aUn,zbb,zbc,zbd,zbe,zbf,zbg,zbh,zbi,zbj,zbk,zbl,zbm,zbn,flat,simple,zbo,zbp,zbq,zbr,zbs,zbt,zbu,zbv,zbw,zbx,zby,zbz,zca,zcb,zcc,zcd,zce,zcf,zcg,zch,zci,zcj,zck,zcl,zcm,zcn,zco,zcp,zcq,zcr,Nat.reduceEqDiff,Nat.reduceLT,Nat.reduceAdd,Nat.reduceSub,reduceIte,Kt_P,zcs,zct,zcu,zcv,zcw,zcx,zcy,zcz,zda,zdb,zdc,zdd,zde,zdf,zdg,zdh,zdi,zdj,zdk,reduceCtorEq,zdl,zdm,zdn,goInt,zdo,zdp,zdq,zdr,zds,zdt,zdu,zdv,zdw,zdx,zdy,zdz,zea,zeb,zec,zed,zdk,zee,zef,zeg,zeh,zei,zej,zek,zel,zem,zen,zeo,zep,zeq,zer,zes,zet,zeu,zev,zew,zex,zey,ya,yb,yc,yd,ye,yf,ts_int,ts_int64,ts_bool,ts_ints,ts_post,ts_posts,yg,yh,yi,yj,yk,yl,ym,ts_intsl,ts_int64s,ts_bools,ts_side,ts_sideb,ts_pints,ts_pbool,aPure,aLen,l7]
        rw [List.take_length] at k2
        have hn7 := hE07.next
        refine hq v B (Fr.trans hE07 hF fun b hb h => by omega) (fun _ => ⟨vs, k2.mono fun b _ h => by omega, ?_⟩) (fun h => absurd ⟨wa, wb⟩ h)
        have : (keepOf sel (mrg a b)).length ≤ (mrg a b).length := by unfold keepOf; rw [List.length_map]; exact List.length_filter_le _ _
        unfold keptL
        omega
    · simp only [zaa,zab,zac,zad,zae,zaf,zag,zah,zai,zaj,zak,zal,zam,zan,zao,zap,zaq,zar,zas,zat,zau,zav,zaw,zax,zay,zaz,zba,aUn,zbb,zbc,zbd,zbe,zbf,zbg,zbh,zbi,zbj,zbk,zbl,zbm,zbn,flat,simple,zbo,zbp,zbq,zbr,zbs,zbt,zbu,zbv,zbw,zbx,zby,zbz,zca,zcb,zcc,zcd,zce,zcf,zcg,zch,zci,zcj,zck,zcl,zcm,zcn,zco,zcp,zcq,zcr,Nat.reduceEqDiff,Nat.reduceLT,Nat.reduceAdd,Nat.reduceSub,reduceIte,Kt_P,zcs,zct,zcu,zcv,zcw,zcx,zcy,zcz,zda,zdb,zdc,zdd,zde,zdf,zdg,zdh,zdi,zdj,zdk,reduceCtorEq,zdl,zdm,zdn,goInt,zdo,zdp,zdq,zdr,zds,zdt,zdu,zdv,zdw,zdx,zdy,zdz,zea,zeb,zec,zed,zdk,zee,zef,zeg,zeh,zei,zej,zek,zel,zem,zen,zeo,zep,zeq,zer,zes,zet,zeu,zev,zew,zex,zey,ya,yb,yc,yd,ye,yf,ts_int,ts_int64,ts_bool,ts_ints,ts_post,ts_posts,yg,yh,yi,yj,yk,yl,ym,ts_intsl,ts_int64s,ts_bools,ts_side,ts_sideb,ts_pints,ts_pbool,aPure,aLen]
      exact hq _ A3 hE13 (fun h => absurd (h.2 i) hbad) fun _ => PRes.nil _ _
  · simp only [zaa,zab,zac,zad,zae,zaf,zag,zah,zai,zaj,zak,zal,zam,zan,zao,zap,zaq,zar,zas,zat,zau,zav,zaw,zax,zay,zaz,zba,aUn,zbb,zbc,zbd,zbe,zbf,zbg,zbh,zbi,zbj,zbk,zbl,zbm,zbn,flat,simple,zbo,zbp,zbq,zbr,zbs,zbt,zbu,zbv,zbw,zbx,zby,zbz,zca,zcb,zcc,zcd,zce,zcf,zcg,zch,zci,zcj,zck,zcl,zcm,zcn,zco,zcp,zcq,zcr,Nat.reduceEqDiff,Nat.reduceLT,Nat.reduceAdd,Nat.reduceSub,reduceIte,Kt_P,zcs,zct,zcu,zcv,zcw,zcx,zcy,zcz,zda,zdb,zdc,zdd,zde,zdf,zdg,zdh,zdi,zdj,zdk,reduceCtorEq,zdl,zdm,zdn,goInt,zdo,zdp,zdq,zdr,zds,zdt,zdu,zdv,zdw,zdx,zdy,zdz,zea,zeb,zec,zed,zdk,zee,zef,zeg,zeh,zei,zej,zek,zel,zem,zen,zeo,zep,zeq,zer,zes,zet,zeu,zev,zew,zex,zey,ya,yb,yc,yd,ye,yf,ts_int,ts_int64,ts_bool,ts_ints,ts_post,ts_posts,yg,yh,yi,yj,yk,yl,ym,ts_intsl,ts_int64s,ts_bools,ts_side,ts_sideb,ts_pints,ts_pbool,aPure,aLen]
    exact hq _ A2 (hE5.trans hE2) (fun h => absurd (h.1 i) hbad) fun _ => PRes.nil _ _

theorem either_ok (A : AHeap) (va vb : Value) (a b : List PostL) (ha : Posts A va a) (hb : Posts A vb b)
    (la : a.length ≤ 100000) (lb : b.length ≤ 100000) (pa : ∀ p ∈ a, p.2.length ≤ 1000000) (pb : ∀ p ∈ b, p.2.length ≤ 1000000) (Q : Value → AHeap → Prop)
    (hq : ∀ v A', Ext A A' → (wfs a ∧ wfs b → PRes A A' v (keptL (fun _ _ => true) a b)) → (¬ (wfs a ∧ wfs b) → PRes A A' v []) → Q v A') : Cal Kt 6 #[va, vb] A Q := by
  refine Cal_of (nt := 8) (rs := [.tmp 4]) fn_either rfl rfl rfl (Nat.le_of_ble_eq_true rfl) ?_
  simp only [zaa,zab,zac,zad,zae,zaf,zag,zah,zai,zaj,zak,zal,zam,zan,zao,zap,zaq,zar,zas,zat,zau,zav,zaw,zax,zay,zaz,zba,aUn,zbb,zbc,zbd,zbe,zbf,zbg,zbh,zbi,zbj,zbk,zbl,zbm,zbn,flat,simple,zbo,zbp,zbq,zbr,zbs,zbt,zbu,zbv,zbw,zbx,zby,zbz,zca,zcb,zcc,zcd,zce,zcf,zcg,zch,zci,zcj,zck,zcl,zcm,zcn,zco,zcp,zcq,zcr,Nat.reduceEqDiff,Nat.reduceLT,Nat.reduceAdd,Nat.reduceSub,reduceIte,Kt_P,zcs,zct,zcu,zcv,zcw,zcx,zcy,zcz,zda,zdb,zdc,zdd,zde,zdf,zdg,zdh,zdi,zdj,zdk,reduceCtorEq,zdl,zdm,zdn,goInt,zdo,zdp,zdq,zdr,zds,zdt,zdu,zdv,zdw,zdx,zdy,zdz,zea,zeb,zec,zed,zdk,zee,zef,zeg,zeh,zei,zej,zek,zel,zem,zen,zeo,zep,zeq,zer,zes,zet,zeu,zev,zew,zex,zey,ya,yb,yc,yd,ye,yf,ts_int,ts_int64,ts_bool,ts_ints,ts_post,ts_posts,yg,yh,yi,yj,yk,yl,ym,ts_intsl,ts_int64s,ts_bools,ts_side,ts_sideb,ts_pints,ts_pbool,aPure,aLen]
  rw [CalF_cal (Kt_prim (by decide) _ _)]
  refine kept_ok A va vb a b _ _ sel_either (by decide) ha hb la lb pa pb _ fun v A' hE h1 h2 => ?_
  simp only [zaa,zab,zac,zad,zae,zaf,zag,zah,zai,zaj,zak,zal,zam,zan,zao,zap,zaq,zar,zas,zat,zau,zav,zaw,zax,zay,zaz,zba,aUn,zbb,zbc,zbd,zbe,zbf,zbg,zbh,zbi,zbj,zbk,zbl,zbm,zbn,flat,simple,zbo,zbp,zbq,zbr,zbs,zbt,zbu,zbv,zbw,zbx,zby,zbz,zca,zcb,zcc,zcd,zce,zcf,zcg,zch,zci,zcj,zck,zcl,zcm,zcn,zco,zcp,zcq,zcr,Nat.reduceEqDiff,Nat.reduceLT,Nat.reduceAdd,Nat.reduceSub,reduceIte,Kt_P,zcs,zct,zcu,zcv,zcw,zcx,zcy,zcz,zda,zdb,zdc,zdd,zde,zdf,zdg,zdh,zdi,zdj,zdk,reduceCtorEq,zdl,zdm,zdn,goInt,zdo,zdp,zdq,zdr,zds,zdt,zdu,zdv,zdw,zdx,zdy,zdz,zea,zeb,zec,zed,zdk,zee,zef,zeg,zeh,zei,zej,zek,zel,zem,zen,zeo,zep,zeq,zer,zes,zet,zeu,zev,zew,zex,zey,ya,yb,yc,yd,ye,yf,ts_int,ts_int64,ts_bool,ts_ints,ts_post,ts_posts,yg,yh,yi,yj,yk,yl,ym,ts_intsl,ts_int64s,ts_bools,ts_side,ts_sideb,ts_pints,ts_pbool,aPure,aLen]
  exact hq v A' hE h1 h2
theorem both_ok (A : AHeap) (va vb : Value) (a b : List PostL) (ha : Posts A va a) (hb : Posts A vb b)
    (la : a.length ≤ 100000) (lb : b.length ≤ 100000) (pa : ∀ p ∈ a, p.2.length ≤ 1000000) (pb : ∀ p ∈ b, p.2.length ≤ 1000000) (Q : Value → AHeap → Prop)
    (hq : ∀ v A', Ext A A' → (wfs a ∧ wfs b → PRes A A' v (keptL (fun a b => a && b) a b)) → (¬ (wfs a ∧ wfs b) → PRes A A' v []) → Q v A') : Cal Kt 7 #[va, vb] A Q := by
  refine Cal_of (nt := 8) (rs := [.tmp 4]) fn_both rfl rfl rfl (Nat.le_of_ble_eq_true rfl) ?_
  simp only [zaa,zab,zac,zad,zae,zaf,zag,zah,zai,zaj,zak,zal,zam,zan,zao,zap,zaq,zar,zas,zat,zau,zav,zaw,zax,zay,zaz,zba,aUn,zbb,zbc,zbd,zbe,zbf,zbg,zbh,zbi,zbj,zbk,zbl,zbm,zbn,flat,simple,zbo,zbp,zbq,zbr,zbs,zbt,zbu,zbv,zbw,zbx,zby,zbz,zca,zcb,zcc,zcd,zce,zcf,zcg,zch,zci,zcj,zck,zcl,zcm,zcn,zco,zcp,zcq,zcr,Nat.reduceEqDiff,Nat.reduceLT,Nat.reduceAdd,Nat.reduceSub,reduceIte,Kt_P,zcs,zct,zcu,zcv,zcw,zcx,zcy,zcz,zda,zdb,zdc,zdd,zde,zdf,zdg,zdh,zdi,zdj,zdk,reduceCtorEq,zdl,zdm,zdn,goInt,zdo,zdp,zdq,zdr,zds,zdt,zdu,zdv,zdw,zdx,zdy,zdz,zea,zeb,zec,zed,zdk,zee,zef,zeg,zeh,zei,zej,zek,zel,zem,zen,zeo,zep,zeq,zer,zes,zet,zeu,zev,zew,zex,zey,ya,yb,yc,yd,ye,yf,ts_int,ts_int64,ts_bool,ts_ints,ts_post,ts_posts,yg,yh,yi,yj,yk,yl,ym,ts_intsl,ts_int64s,ts_bools,ts_side,ts_sideb,ts_pints,ts_pbool,aPure,aLen]
  rw [CalF_cal (Kt_prim (by decide) _ _)]
  refine kept_ok A va vb a b _ _ sel_both (by decide) ha hb la lb pa pb _ fun v A' hE h1 h2 => ?_
  simp only [zaa,zab,zac,zad,zae,zaf,zag,zah,zai,zaj,zak,zal,zam,zan,zao,zap,zaq,zar,zas,zat,zau,zav,zaw,zax,zay,zaz,zba,aUn,zbb,zbc,zbd,zbe,zbf,zbg,zbh,zbi,zbj,zbk,zbl,zbm,zbn,flat,simple,zbo,zbp,zbq,zbr,zbs,zbt,zbu,zbv,zbw,zbx,zby,zbz,zca,zcb,zcc,zcd,zce,zcf,zcg,zch,zci,zcj,zck,zcl,zcm,zcn,zco,zcp,zcq,zcr,Nat.reduceEqDiff,Nat.reduceLT,Nat.reduceAdd,Nat.reduceSub,reduceIte,Kt_P,zcs,zct,zcu,zcv,zcw,zcx,zcy,zcz,zda,zdb,zdc,zdd,zde,zdf,zdg,zdh,zdi,zdj,zdk,reduceCtorEq,zdl,zdm,zdn,goInt,zdo,zdp,zdq,zdr,zds,zdt,zdu,zdv,zdw,zdx,zdy,zdz,zea,zeb,zec,zed,zdk,zee,zef,zeg,zeh,zei,zej,zek,zel,zem,zen,zeo,zep,zeq,zer,zes,zet,zeu,zev,zew,zex,zey,ya,yb,yc,yd,ye,yf,ts_int,ts_int64,ts_bool,ts_ints,ts_post,ts_posts,yg,yh,yi,yj,yk,yl,ym,ts_intsl,ts_int64s,ts_bools,ts_side,ts_sideb,ts_pints,ts_pbool,aPure,aLen]
  exact hq v A' hE h1 h2
theorem less_ok (A : AHeap) (va vb : Value) (a b : List PostL) (ha : Posts A va a) (hb : Posts A vb b)
    (la : a.length ≤ 100000) (lb : b.length ≤ 100000) (pa : ∀ p ∈ a, p.2.length ≤ 1000000) (pb : ∀ p ∈ b, p.2.length ≤ 1000000) (Q : Value → AHeap → Prop)
    (hq : ∀ v A', Ext A A' → (wfs a ∧ wfs b → PRes A A' v (keptL (fun _ b => !b) a b)) → (¬ (wfs a ∧ wfs b) → PRes A A' v []) → Q v A') : Cal Kt 8 #[va, vb] A Q := by
  refine Cal_of (nt := 8) (rs := [.tmp 4]) fn_less rfl rfl rfl (Nat.le_of_ble_eq_true rfl) ?_
  simp only [zaa,zab,zac,zad,zae,zaf,zag,zah,zai,zaj,zak,zal,zam,zan,zao,zap,zaq,zar,zas,zat,zau,zav,zaw,zax,zay,zaz,zba,aUn,zbb,zbc,zbd,zbe,zbf,zbg,zbh,zbi,zbj,zbk,zbl,zbm,zbn,flat,simple,zbo,zbp,zbq,zbr,zbs,zbt,zbu,zbv,zbw,zbx,zby,zbz,zca,zcb,zcc,zcd,zce,zcf,zcg,zch,zci,zcj,zck,zcl,zcm,zcn,zco,zcp,zcq,zcr,Nat.reduceEqDiff,Nat.reduceLT,Nat.reduceAdd,Nat.reduceSub,reduceIte,Kt_P,zcs,zct,zcu,zcv,zcw,zcx,zcy,zcz,zda,zdb,zdc,zdd,zde,zdf,zdg,zdh,zdi,zdj,zdk,reduceCtorEq,zdl,zdm,zdn,goInt,zdo,zdp,zdq,zdr,zds,zdt,zdu,zdv,zdw,zdx,zdy,zdz,zea,zeb,zec,zed,zdk,zee,zef,zeg,zeh,zei,zej,zek,zel,zem,zen,zeo,zep,zeq,zer,zes,zet,zeu,zev,zew,zex,zey,ya,yb,yc,yd,ye,yf,ts_int,ts_int64,ts_bool,ts_ints,ts_post,ts_posts,yg,yh,yi,yj,yk,yl,ym,ts_intsl,ts_int64s,ts_bools,ts_side,ts_sideb,ts_pints,ts_pbool,aPure,aLen]
  rw [CalF_cal (Kt_prim (by decide) _ _)]
  refine kept_ok A va vb a b _ _ sel_less (by decide) ha hb la lb pa pb _ fun v A' hE h1 h2 => ?_
  simp only [zaa,zab,zac,zad,zae,zaf,zag,zah,zai,zaj,zak,zal,zam,zan,zao,zap,zaq,zar,zas,zat,zau,zav,zaw,zax,zay,zaz,zba,aUn,zbb,zbc,zbd,zbe,zbf,zbg,zbh,zbi,zbj,zbk,zbl,zbm,zbn,flat,simple,zbo,zbp,zbq,zbr,zbs,zbt,zbu,zbv,zbw,zbx,zby,zbz,zca,zcb,zcc,zcd,zce,zcf,zcg,zch,zci,zcj,zck,zcl,zcm,zcn,zco,zcp,zcq,zcr,Nat.reduceEqDiff,Nat.reduceLT,Nat.reduceAdd,Nat.reduceSub,reduceIte,Kt_P,zcs,zct,zcu,zcv,zcw,zcx,zcy,zcz,zda,zdb,zdc,zdd,zde,zdf,zdg,zdh,zdi,zdj,zdk,reduceCtorEq,zdl,zdm,zdn,goInt,zdo,zdp,zdq,zdr,zds,zdt,zdu,zdv,zdw,zdx,zdy,zdz,zea,zeb,zec,zed,zdk,zee,zef,zeg,zeh,zei,zej,zek,zel,zem,zen,zeo,zep,zeq,zer,zes,zet,zeu,zev,zew,zex,zey,ya,yb,yc,yd,ye,yf,ts_int,ts_int64,ts_bool,ts_ints,ts_post,ts_posts,yg,yh,yi,yj,yk,yl,ym,ts_intsl,ts_int64s,ts_bools,ts_side,ts_sideb,ts_pints,ts_pbool,aPure,aLen]
  exact hq v A' hE h1 h2
end Go.Sh
