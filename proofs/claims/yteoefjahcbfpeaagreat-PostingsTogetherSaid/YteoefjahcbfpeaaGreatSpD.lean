/- What single functions do, part 4: two rows at once. -/
import Derived.Test.YteoefjahcbfpeaaGreatSpC
namespace Go.Sh
open Go Go.Proofs
set_option linter.unusedSimpArgs false
set_option maxRecDepth 4000
set_option maxHeartbeats 1000000

/-- Two rising rows at once. -/
def mrg {X : Type} : List (Int × X) → List (Int × X) → List (Int × Option X × Option X)
  | [], bs => bs.map fun b => (b.1, none, some b.2)
  | a :: xs, [] => (a.1, some a.2, none) :: mrg xs []
  | a :: xs, b :: bs => if b.1 < a.1 then (b.1, none, some b.2) :: mrg (a :: xs) bs else if b.1 = a.1 then (a.1, some a.2, some b.2) :: mrg xs bs else (a.1, some a.2, none) :: mrg xs (b :: bs)
termination_by xs bs => xs.length + bs.length

/-- A pointer to a value, or none. -/
def PtrTo {X : Type} (P : AHeap → Value → X → Prop) (A : AHeap) (p : Value) : Option X → Prop
  | none => p = .pointer none
  | some x => ∃ b o r u, p = .pointer (some ⟨b, o, none⟩) ∧ b < A.next ∧ arow A b = some r ∧ r.cells[o]? = some u ∧ P A u x

def RSide {X : Type} (P : AHeap → Value → X → Prop) (m : List (Int × Option X × Option X)) (i : Nat) (xs : Array Value) (A : AHeap) : Prop :=
  ∃ (_ : i < m.length) (pa pb : Value), xs = #[.int .i64 m[i].1, .agg #[pa, pb]] ∧ PtrTo P A pa m[i].2.1 ∧ PtrTo P A pb m[i].2.2

theorem PTrue_dk : ∀ (A A' : AHeap) (u : Value) (x : Unit), (∀ b el cells, Dat A b el cells → Dat A' b el cells) → PTrue A u x → PTrue A' u x := fun _ _ _ _ _ h => h
theorem mrg_lt {X : Type} {a b : Int × X} {xs bs : List (Int × X)} (h : b.1 < a.1) : mrg (a :: xs) (b :: bs) = (b.1, none, some b.2) :: mrg (a :: xs) bs := by rw [mrg, if_pos h]
theorem mrg_eq {X : Type} {a b : Int × X} {xs bs : List (Int × X)} (h : b.1 = a.1) : mrg (a :: xs) (b :: bs) = (a.1, some a.2, some b.2) :: mrg xs bs := by rw [mrg, if_neg (by omega), if_pos h]
theorem mrg_gt {X : Type} {a b : Int × X} {xs bs : List (Int × X)} (h : a.1 < b.1) : mrg (a :: xs) (b :: bs) = (a.1, some a.2, none) :: mrg xs (b :: bs) := by rw [mrg, if_neg (by omega), if_neg (by omega)]
theorem mrg_nilR {X : Type} {a : Int × X} {xs : List (Int × X)} : mrg (a :: xs) [] = (a.1, some a.2, none) :: mrg xs [] := by rw [mrg]
theorem mrg_nilL {X : Type} {b : Int × X} {bs : List (Int × X)} : mrg [] (b :: bs) = (b.1, none, some b.2) :: mrg [] bs := by simp [mrg]
theorem mrg_nil {X : Type} : mrg ([] : List (Int × X)) [] = [] := by simp [mrg]

theorem drop_head {α : Type} {m rest : List α} {c : Nat} {x : α} (h : m.drop c = x :: rest) : ∃ h : c < m.length, m[c] = x ∧ m.drop (c + 1) = rest := by
  have hlt : c < m.length := by
    rcases Nat.lt_or_ge c m.length with h1 | h1
    · exact h1
    · rw [List.drop_of_length_le h1] at h; cases h
  rw [List.drop_eq_getElem_cons hlt] at h
  simp only [List.cons.injEq] at h
  exact ⟨hlt, h.1, h.2⟩

theorem bs_side (a : Option Addr) : aBuild Tryz.prog 66 [(1, .pointer a)] = some (.agg #[.pointer none, .pointer a]) := by kernel_rfl
theorem bs_sideb (a : Option Addr) : aBuild Tryz.prog 240 [(1, .pointer a)] = some (.agg #[.pointer none, .pointer a]) := by kernel_rfl
theorem as_side (a : Option Addr) : aBuild Tryz.prog 66 [(0, .pointer a)] = some (.agg #[.pointer a, .pointer none]) := by kernel_rfl
theorem as_sideb (a : Option Addr) : aBuild Tryz.prog 240 [(0, .pointer a)] = some (.agg #[.pointer a, .pointer none]) := by kernel_rfl

theorem tz_side : tzero Tryz.prog 66 = some (.agg #[.pointer none, .pointer none]) := by kernel_rfl
theorem tz_sideb : tzero Tryz.prog 240 = some (.agg #[.pointer none, .pointer none]) := by kernel_rfl
theorem ts_yside : tsize Tryz.prog 122 = some 1 := by kernel_rfl
theorem ts_ysideb : tsize Tryz.prog 236 = some 1 := by kernel_rfl
theorem fn_tog1 : Kt.funcs 69 = some Tryz.f69 := by kernel_rfl
theorem fn_togb1 : Kt.funcs 117 = some Tryz.f117 := by kernel_rfl

/-- What the merging function has gathered of its second row: keys, values; and yield. -/
def Tog {X : Type} (P : AHeap → Value → X → Prop) (tk tv ty tks tvs : TypeId) (lp b3 b4 b5 : Nat) (bs : List (Int × X)) (C : AHeap) : Prop :=
  ∃ kv hv vs, Box C b3 ty [.func (.yield lp) #[] #[]] ∧ Box C b4 tks [kv] ∧ Box C b5 tvs [hv] ∧ Elems C tk 1 kv bs.length (ints (bs.map (·.1))) ∧ Elems C tv 1 hv bs.length vs ∧
    ∀ (j : Nat) (h : j < bs.length) (h' : j < vs.length), P C vs[j] bs[j].2

theorem Tog.fr {X : Type} {P : AHeap → Value → X → Prop} (hP : ∀ A A' u x, (∀ b el cells, Dat A b el cells → Dat A' b el cells) → P A u x → P A' u x) {tk tv ty tks tvs : TypeId} {lp b3 b4 b5 : Nat} {bs : List (Int × X)} {W : Nat → Prop} {C C' : AHeap}
    (h : Fr W C C') (hT : Tog P tk tv ty tks tvs lp b3 b4 b5 bs C) (hw : ¬ W b3 ∧ ¬ W b4 ∧ ¬ W b5) : Tog P tk tv ty tks tvs lp b3 b4 b5 bs C' := by
  obtain ⟨kv, hv, vs, h3, h4, h5, h6, h7, h8⟩ := hT
  exact ⟨kv, hv, vs, h.box h3 hw.1, h.box h4 hw.2.1, h.box h5 hw.2.2, h6.fr h, h7.fr h, fun j hj hj' => hP _ _ _ _ h.dat (h8 j hj hj')⟩


theorem tog1_it (A : AHeap) (ba bb : Nat) (fva fvb : Value) (xs bs : List (Int × (List Int))) (Rda Rdb : Nat → Prop) (hba : Box A ba 73 [fva]) (hbb : Box A bb 73 [fvb])
    (ia : ItV Kt A fva xs.length (RKV Ints xs) Rda) (ib : ItV Kt A fvb bs.length (RKV Ints bs) Rdb) (hN : bs.length ≤ 1000000) :
    ItV Kt A (.func (.func 69) #[] #[.pointer (some ⟨bb, 0, none⟩), .pointer (some ⟨ba, 0, none⟩)]) (mrg xs bs).length (RSide Ints (mrg xs bs)) (fun b => b = ba ∨ b = bb ∨ Rda b ∨ Rdb b) := by
  refine ⟨?_, _, _, _, rfl, fun A1 hk lp I S W1 Q hR hI hW hQ => ?_⟩
  · rintro b (rfl | rfl | h | h)
    · exact hba.1
    · exact hbb.1
    · exact ia.1 b h
    · exact ib.1 b h
  replace hba := hk.box hba (.inl rfl)
  replace hbb := hk.box hbb (.inr (.inl rfl))
  replace ia := ia.kr hk fun b hb => .inr (.inr (.inl hb))
  replace ib := ib.kr hk fun b hb => .inr (.inr (.inr hb))
  refine Cal_of (nt := 92) (rs := []) fn_tog1 rfl rfl rfl (Nat.le_of_ble_eq_true rfl) ?_
  simp only [zaa,zab,zac,zad,zae,zaf,zag,zah,zai,zaj,zak,zal,zam,zan,zao,zap,zaq,zar,zas,zat,zau,zav,zaw,zax,zay,zaz,zba,aUn,zbb,zbc,zbd,zbe,zbf,zbg,zbh,zbi,zbj,zbk,zbl,zbm,zbn,flat,simple,zbo,zbp,zbq,zbr,zbs,zbt,zbu,zbv,zbw,zbx,zby,zbz,zca,zcb,zcc,zcd,zce,zcf,zcg,zch,zci,zcj,zck,zcl,zcm,zcn,zco,zcp,zcq,zcr,Nat.reduceEqDiff,Nat.reduceLT,Nat.reduceAdd,Nat.reduceSub,reduceIte,Kt_P,zcs,zct,zcu,zcv,zcw,zcx,zcy,zcz,zda,zdb,zdc,zdd,zde,zdf,zdg,zdh,zdi,zdj,zdk,reduceCtorEq,zdl,zdm,zdn,goInt,zdo,zdp,zdq,zdr,zds,zdt,zdu,zdv,zdw,zdx,zdy,zdz,zea,zeb,zec,zed,zdk,zee,zef,zeg,zeh,zei,zej,zek,zel,zem,zen,zeo,zep,zeq,zer,zes,zet,zeu,zev,zew,zex,zey,ya,yb,yc,yd,ye,yf,ts_int,ts_int64,ts_bool,ts_ints,ts_post,ts_posts,yg,yh,yi,yj,yk,yl,ym,ts_intsl,ts_int64s,ts_bools,ts_side,ts_sideb,ts_pints,ts_pbool,aPure,aLen]
  refine OpW_box_of ts_yside rfl fun b3 B3 hb3 hn3 hE3 hB3 => ?_
  simp only [zaa,zab,zac,zad,zae,zaf,zag,zah,zai,zaj,zak,zal,zam,zan,zao,zap,zaq,zar,zas,zat,zau,zav,zaw,zax,zay,zaz,zba,aUn,zbb,zbc,zbd,zbe,zbf,zbg,zbh,zbi,zbj,zbk,zbl,zbm,zbn,flat,simple,zbo,zbp,zbq,zbr,zbs,zbt,zbu,zbv,zbw,zbx,zby,zbz,zca,zcb,zcc,zcd,zce,zcf,zcg,zch,zci,zcj,zck,zcl,zcm,zcn,zco,zcp,zcq,zcr,Nat.reduceEqDiff,Nat.reduceLT,Nat.reduceAdd,Nat.reduceSub,reduceIte,Kt_P,zcs,zct,zcu,zcv,zcw,zcx,zcy,zcz,zda,zdb,zdc,zdd,zde,zdf,zdg,zdh,zdi,zdj,zdk,reduceCtorEq,zdl,zdm,zdn,goInt,zdo,zdp,zdq,zdr,zds,zdt,zdu,zdv,zdw,zdx,zdy,zdz,zea,zeb,zec,zed,zdk,zee,zef,zeg,zeh,zei,zej,zek,zel,zem,zen,zeo,zep,zeq,zer,zes,zet,zeu,zev,zew,zex,zey,ya,yb,yc,yd,ye,yf,ts_int,ts_int64,ts_bool,ts_ints,ts_post,ts_posts,yg,yh,yi,yj,yk,yl,ym,ts_intsl,ts_int64s,ts_bools,ts_side,ts_sideb,ts_pints,ts_pbool,aPure,aLen] at hB3 ⊢
  refine OpW_alloc_of ts_int64s tz_int64s rfl fun b4 B4 hb4 hn4 hE4 hB4 => ?_
  simp only [zaa,zab,zac,zad,zae,zaf,zag,zah,zai,zaj,zak,zal,zam,zan,zao,zap,zaq,zar,zas,zat,zau,zav,zaw,zax,zay,zaz,zba,aUn,zbb,zbc,zbd,zbe,zbf,zbg,zbh,zbi,zbj,zbk,zbl,zbm,zbn,flat,simple,zbo,zbp,zbq,zbr,zbs,zbt,zbu,zbv,zbw,zbx,zby,zbz,zca,zcb,zcc,zcd,zce,zcf,zcg,zch,zci,zcj,zck,zcl,zcm,zcn,zco,zcp,zcq,zcr,Nat.reduceEqDiff,Nat.reduceLT,Nat.reduceAdd,Nat.reduceSub,reduceIte,Kt_P,zcs,zct,zcu,zcv,zcw,zcx,zcy,zcz,zda,zdb,zdc,zdd,zde,zdf,zdg,zdh,zdi,zdj,zdk,reduceCtorEq,zdl,zdm,zdn,goInt,zdo,zdp,zdq,zdr,zds,zdt,zdu,zdv,zdw,zdx,zdy,zdz,zea,zeb,zec,zed,zdk,zee,zef,zeg,zeh,zei,zej,zek,zel,zem,zen,zeo,zep,zeq,zer,zes,zet,zeu,zev,zew,zex,zey,ya,yb,yc,yd,ye,yf,ts_int,ts_int64,ts_bool,ts_ints,ts_post,ts_posts,yg,yh,yi,yj,yk,yl,ym,ts_intsl,ts_int64s,ts_bools,ts_side,ts_sideb,ts_pints,ts_pbool,aPure,aLen]
  refine OpW_alloc_of ts_intsl tz_intsl rfl fun b5 B5 hb5 hn5 hE5 hB5 => ?_
  have hE15 : Ext A1 B5 := (hE3.trans hE4).trans hE5
  have hlb := (hE15.box hbb fun h => h).load (P := Tryz.prog) (o := 0) (t := 73) Tryz.underlying73 rfl rfl
  simp only [zaa,zab,zac,zad,zae,zaf,zag,zah,zai,zaj,zak,zal,zam,zan,zao,zap,zaq,zar,zas,zat,zau,zav,zaw,zax,zay,zaz,zba,aUn,zbb,zbc,zbd,zbe,zbf,zbg,zbh,zbi,zbj,zbk,zbl,zbm,zbn,flat,simple,zbo,zbp,zbq,zbr,zbs,zbt,zbu,zbv,zbw,zbx,zby,zbz,zca,zcb,zcc,zcd,zce,zcf,zcg,zch,zci,zcj,zck,zcl,zcm,zcn,zco,zcp,zcq,zcr,Nat.reduceEqDiff,Nat.reduceLT,Nat.reduceAdd,Nat.reduceSub,reduceIte,Kt_P,zcs,zct,zcu,zcv,zcw,zcx,zcy,zcz,zda,zdb,zdc,zdd,zde,zdf,zdg,zdh,zdi,zdj,zdk,reduceCtorEq,zdl,zdm,zdn,goInt,zdo,zdp,zdq,zdr,zds,zdt,zdu,zdv,zdw,zdx,zdy,zdz,zea,zeb,zec,zed,zdk,zee,zef,zeg,zeh,zei,zej,zek,zel,zem,zen,zeo,zep,zeq,zer,zes,zet,zeu,zev,zew,zex,zey,ya,yb,yc,yd,ye,yf,ts_int,ts_int64,ts_bool,ts_ints,ts_post,ts_posts,yg,yh,yi,yj,yk,yl,ym,ts_intsl,ts_int64s,ts_bools,ts_side,ts_sideb,ts_pints,ts_pbool,aPure,aLen,hlb]
  have hb3' := hE5.box (hE4.box hB3 fun h => h) fun h => h
  have hb4' := hE5.box hB4 fun h => h
  have hI5 := hR.stab _ _ _ _ hI (hE15.keep (base := A1.next) fun _ _ h => h.elim)
  have hit := ib.fr hE15 fun b _ h => h
  -- the second row is gathered
  refine range_of rfl hit (by simp only [zaa,zab,zac,zad,zae,zaf,zag,zah,zai,zaj,zak,zal,zam,zan,zao,zap,zaq,zar,zas,zat,zau,zav,zaw,zax,zay,zaz,zba,aUn,zbb,zbc,zbd,zbe,zbf,zbg,zbh,zbi,zbj,zbk,zbl,zbm,zbn,flat,simple,zbo,zbp,zbq,zbr,zbs,zbt,zbu,zbv,zbw,zbx,zby,zbz,zca,zcb,zcc,zcd,zce,zcf,zcg,zch,zci,zcj,zck,zcl,zcm,zcn,zco,zcp,zcq,zcr,Nat.reduceEqDiff,Nat.reduceLT,Nat.reduceAdd,Nat.reduceSub,reduceIte,Kt_P,zcs,zct,zcu,zcv,zcw,zcx,zcy,zcz,zda,zdb,zdc,zdd,zde,zdf,zdg,zdh,zdi,zdj,zdk,reduceCtorEq,zdl,zdm,zdn,goInt,zdo,zdp,zdq,zdr,zds,zdt,zdu,zdv,zdw,zdx,zdy,zdz,zea,zeb,zec,zed,zdk,zee,zef,zeg,zeh,zei,zej,zek,zel,zem,zen,zeo,zep,zeq,zer,zes,zet,zeu,zev,zew,zex,zey,ya,yb,yc,yd,ye,yf,ts_int,ts_int64,ts_bool,ts_ints,ts_post,ts_posts,yg,yh,yi,yj,yk,yl,ym,ts_intsl,ts_int64s,ts_bools,ts_side,ts_sideb,ts_pints,ts_pbool,aPure,aLen]) (fun i W B => ∃ kv hv vs, Box B b3 122 [.func (.yield lp) #[] #[]] ∧ Box B b4 123 [kv] ∧ Box B b5 32 [hv] ∧ Acc B 2 1 kv i (ints ((bs.take i).map (·.1))) ∧ Acc B 59 1 hv i vs ∧
      (∀ (j : Nat) (h : j < i) (h' : j < bs.length) (h'' : j < vs.length), Ints B vs[j] bs[j].2) ∧ (∀ b, blockOf kv b → W b ∧ B5.next < b) ∧ (∀ b, blockOf hv b → W b ∧ B5.next < b) ∧ (∀ b, blockOf kv b → ¬ blockOf hv b) ∧ W b4 ∧ W b5 ∧ I 0 W1 B)
    (fun _ _ _ => False) (fun b => b = b4 ∨ b = b5) ?_ ?_ ?_ (fun _ _ _ _ h _ => h) ?_ ?_ (fun _ _ _ _ _ _ _ h => h.elim)
  · intro B hE
    exact ⟨_, _, [], hE.box hb3' fun h => h, hE.box hb4' fun h => h, hE.box hB5 fun h => h, ⟨by simp [ints], .inl ⟨rfl, rfl⟩⟩, ⟨rfl, .inl ⟨rfl, rfl⟩⟩, fun j h => by omega, fun b h => h.elim, fun b h => h.elim, fun b h => h.elim, .inl rfl, .inr rfl,
      hR.stab _ _ _ _ hI5 (hE.keep fun _ _ h => h.elim)⟩
  · rintro b (rfl | rfl)
    · exact ⟨by omega, fun h => by have := ib.1 _ h; omega⟩
    · exact ⟨by omega, fun h => by have := ib.1 _ h; omega⟩
  · rintro i W B B' ⟨kv, hv, vs, k3, k4, k5, k6, k7, k8, k9, k10, k11, k12, k13, k14⟩ hK
    refine ⟨kv, hv, vs, hK.box k3 (.inl (by omega)), hK.box k4 (.inl (by omega)), hK.box k5 (.inl (by omega)), hK.acc k6 fun b h => .inr (k9 b h).1, hK.acc k7 fun b h => .inr (k10 b h).1, fun j h h' h'' => Ints_dk _ _ _ _ hK.dat (k8 j h h' h''), k9, k10, k11, k12, k13, ?_⟩
    exact hR.stab _ _ _ _ k14 (hK.low (by omega) fun b hb => .inl (by have := (hW b hb).1; omega))
  · rintro i W B ys hi ⟨kv, hv, vs, k3, k4, k5, k6, k7, k8, k9, k10, k11, k12, k13, k14⟩ hlt hWB ⟨hib, u, rfl, hu⟩ _
    refine ⟨rfl, _, rfl, ?_⟩
    simp only [zaa,zab,zac,zad,zae,zaf,zag,zah,zai,zaj,zak,zal,zam,zan,zao,zap,zaq,zar,zas,zat,zau,zav,zaw,zax,zay,zaz,zba,aUn,zbb,zbc,zbd,zbe,zbf,zbg,zbh,zbi,zbj,zbk,zbl,zbm,zbn,flat,simple,zbo,zbp,zbq,zbr,zbs,zbt,zbu,zbv,zbw,zbx,zby,zbz,zca,zcb,zcc,zcd,zce,zcf,zcg,zch,zci,zcj,zck,zcl,zcm,zcn,zco,zcp,zcq,zcr,Nat.reduceEqDiff,Nat.reduceLT,Nat.reduceAdd,Nat.reduceSub,reduceIte,Kt_P,zcs,zct,zcu,zcv,zcw,zcx,zcy,zcz,zda,zdb,zdc,zdd,zde,zdf,zdg,zdh,zdi,zdj,zdk,reduceCtorEq,zdl,zdm,zdn,goInt,zdo,zdp,zdq,zdr,zds,zdt,zdu,zdv,zdw,zdx,zdy,zdz,zea,zeb,zec,zed,zdk,zee,zef,zeg,zeh,zei,zej,zek,zel,zem,zen,zeo,zep,zeq,zer,zes,zet,zeu,zev,zew,zex,zey,ya,yb,yc,yd,ye,yf,ts_int,ts_int64,ts_bool,ts_ints,ts_post,ts_posts,yg,yh,yi,yj,yk,yl,ym,ts_intsl,ts_int64s,ts_bools,ts_side,ts_sideb,ts_pints,ts_pbool,aPure,aLen]
    refine ⟨Fr.refl _ _, fun C hCn hCF => ?_⟩
    obtain ⟨uo, un, uc, hu0⟩ := Ints.isSlice hu; subst hu0; have hu' := hu
    replace k3 := hCF.box k3 (by omega)
    replace k4 := hCF.box k4 (by omega)
    replace k5 := hCF.box k5 (by omega)
    replace k6 := k6.fr hCF fun b h => (hWB b (k9 b h).1).2.2.1
    replace k7 := k7.fr hCF fun b h => (hWB b (k10 b h).1).2.2.1
    replace k8 := fun j h h' h'' => Ints_dk _ _ _ _ hCF.dat (k8 j h h' h'')
    replace k14 := hR.stab _ _ _ _ k14 (hCF.keep fun b _ hb => ⟨by omega, fun h => by have := (hW b h).1; omega⟩)
    have l4 := k4.load (P := Tryz.prog) (o := 0) (t := 123) Tryz.underlying123 rfl rfl
    simp only [zaa,zab,zac,zad,zae,zaf,zag,zah,zai,zaj,zak,zal,zam,zan,zao,zap,zaq,zar,zas,zat,zau,zav,zaw,zax,zay,zaz,zba,aUn,zbb,zbc,zbd,zbe,zbf,zbg,zbh,zbi,zbj,zbk,zbl,zbm,zbn,flat,simple,zbo,zbp,zbq,zbr,zbs,zbt,zbu,zbv,zbw,zbx,zby,zbz,zca,zcb,zcc,zcd,zce,zcf,zcg,zch,zci,zcj,zck,zcl,zcm,zcn,zco,zcp,zcq,zcr,Nat.reduceEqDiff,Nat.reduceLT,Nat.reduceAdd,Nat.reduceSub,reduceIte,Kt_P,zcs,zct,zcu,zcv,zcw,zcx,zcy,zcz,zda,zdb,zdc,zdd,zde,zdf,zdg,zdh,zdi,zdj,zdk,reduceCtorEq,zdl,zdm,zdn,goInt,zdo,zdp,zdq,zdr,zds,zdt,zdu,zdv,zdw,zdx,zdy,zdz,zea,zeb,zec,zed,zdk,zee,zef,zeg,zeh,zei,zej,zek,zel,zem,zen,zeo,zep,zeq,zer,zes,zet,zeu,zev,zew,zex,zey,ya,yb,yc,yd,ye,yf,ts_int,ts_int64,ts_bool,ts_ints,ts_post,ts_posts,yg,yh,yi,yj,yk,yl,ym,ts_intsl,ts_int64s,ts_bools,ts_side,ts_sideb,ts_pints,ts_pbool,aPure,aLen,l4]
    refine OpW_buildSlice_of (cs := [.int .i64 bs[i].1]) Tryz.underlying123 ts_int64 tz_int64 (by decide) rfl rfl rfl fun q1 C1 hq1 hm1 hF1 hQ1 => ?_
    simp only [zaa,zab,zac,zad,zae,zaf,zag,zah,zai,zaj,zak,zal,zam,zan,zao,zap,zaq,zar,zas,zat,zau,zav,zaw,zax,zay,zaz,zba,aUn,zbb,zbc,zbd,zbe,zbf,zbg,zbh,zbi,zbj,zbk,zbl,zbm,zbn,flat,simple,zbo,zbp,zbq,zbr,zbs,zbt,zbu,zbv,zbw,zbx,zby,zbz,zca,zcb,zcc,zcd,zce,zcf,zcg,zch,zci,zcj,zck,zcl,zcm,zcn,zco,zcp,zcq,zcr,Nat.reduceEqDiff,Nat.reduceLT,Nat.reduceAdd,Nat.reduceSub,reduceIte,Kt_P,zcs,zct,zcu,zcv,zcw,zcx,zcy,zcz,zda,zdb,zdc,zdd,zde,zdf,zdg,zdh,zdi,zdj,zdk,reduceCtorEq,zdl,zdm,zdn,goInt,zdo,zdp,zdq,zdr,zds,zdt,zdu,zdv,zdw,zdx,zdy,zdz,zea,zeb,zec,zed,zdk,zee,zef,zeg,zeh,zei,zej,zek,zel,zem,zen,zeo,zep,zeq,zer,zes,zet,zeu,zev,zew,zex,zey,ya,yb,yc,yd,ye,yf,ts_int,ts_int64,ts_bool,ts_ints,ts_post,ts_posts,yg,yh,yi,yj,yk,yl,ym,ts_intsl,ts_int64s,ts_bools,ts_side,ts_sideb,ts_pints,ts_pbool,aPure,aLen]
    refine OpW_append_of (n := i) (k := 1) ⟨rfl, rfl⟩ Tryz.underlying123 (by rw [Kt_P, Tryz.underlying123]; rfl) ts_int64 tb_int64 tz_int64 (by simp only [zaa,zab,zac,zad,zae,zaf,zag,zah,zai,zaj,zak,zal,zam,zan,zao,zap,zaq,zar,zas,zat,zau,zav,zaw,zax,zay,zaz,zba,aUn,zbb,zbc,zbd,zbe,zbf,zbg,zbh,zbi,zbj,zbk,zbl,zbm,zbn,flat,simple,zbo,zbp,zbq,zbr,zbs,zbt,zbu,zbv,zbw,zbx,zby,zbz,zca,zcb,zcc,zcd,zce,zcf,zcg,zch,zci,zcj,zck,zcl,zcm,zcn,zco,zcp,zcq,zcr,Nat.reduceEqDiff,Nat.reduceLT,Nat.reduceAdd,Nat.reduceSub,reduceIte,Kt_P,zcs,zct,zcu,zcv,zcw,zcx,zcy,zcz,zda,zdb,zdc,zdd,zde,zdf,zdg,zdh,zdi,zdj,zdk,reduceCtorEq,zdl,zdm,zdn,goInt,zdo,zdp,zdq,zdr,zds,zdt,zdu,zdv,zdw,zdx,zdy,zdz,zea,zeb,zec,zed,zdk,zee,zef,zeg,zeh,zei,zej,zek,zel,zem,zen,zeo,zep,zeq,zer,zes,zet,zeu,zev,zew,zex,zey,ya,yb,yc,yd,ye,yf,ts_int,ts_int64,ts_bool,ts_ints,ts_post,ts_posts,yg,yh,yi,yj,yk,yl,ym,ts_intsl,ts_int64s,ts_bools,ts_side,ts_sideb,ts_pints,ts_pbool,aPure,aLen]; exact aSrc_box hQ1 rfl) ⟨rfl, rfl⟩ (by omega) ⟨by omega, rfl, by omega, by omega⟩
      (k6.fr hF1 fun _ _ h => h) fun q2 C2 hq2 hm2 hF2 hA2 => ?_
    simp only [zaa,zab,zac,zad,zae,zaf,zag,zah,zai,zaj,zak,zal,zam,zan,zao,zap,zaq,zar,zas,zat,zau,zav,zaw,zax,zay,zaz,zba,aUn,zbb,zbc,zbd,zbe,zbf,zbg,zbh,zbi,zbj,zbk,zbl,zbm,zbn,flat,simple,zbo,zbp,zbq,zbr,zbs,zbt,zbu,zbv,zbw,zbx,zby,zbz,zca,zcb,zcc,zcd,zce,zcf,zcg,zch,zci,zcj,zck,zcl,zcm,zcn,zco,zcp,zcq,zcr,Nat.reduceEqDiff,Nat.reduceLT,Nat.reduceAdd,Nat.reduceSub,reduceIte,Kt_P,zcs,zct,zcu,zcv,zcw,zcx,zcy,zcz,zda,zdb,zdc,zdd,zde,zdf,zdg,zdh,zdi,zdj,zdk,reduceCtorEq,zdl,zdm,zdn,goInt,zdo,zdp,zdq,zdr,zds,zdt,zdu,zdv,zdw,zdx,zdy,zdz,zea,zeb,zec,zed,zdk,zee,zef,zeg,zeh,zei,zej,zek,zel,zem,zen,zeo,zep,zeq,zer,zes,zet,zeu,zev,zew,zex,zey,ya,yb,yc,yd,ye,yf,ts_int,ts_int64,ts_bool,ts_ints,ts_post,ts_posts,yg,yh,yi,yj,yk,yl,ym,ts_intsl,ts_int64s,ts_bools,ts_side,ts_sideb,ts_pints,ts_pbool,aPure,aLen] at hF2 hA2 ⊢
    have nk : ∀ b, b ≤ B5.next → ¬ blockOf kv b := fun b hb h => by have := (k9 b h).2; omega
    have nh : ∀ b, b ≤ B5.next → ¬ blockOf hv b := fun b hb h => by have := (k10 b h).2; omega
    have k4' := hF2.box (hF1.box k4 fun h => h) (nk b4 (by omega))
    refine OpW_store_of k4' ⟨rfl, rfl⟩ rfl ts_int64s (Nat.le_refl _) rfl fun C3 hm3 hF3 hB6 => ?_
    replace hB6 : Box C3 b4 123 [.slice (some ⟨q2, 0, none⟩) (i + 1) (i + 1)] := hB6
    have k5' := hF3.box (hF2.box (hF1.box k5 fun h => h) (nk b5 (by omega))) (by omega)
    have k3' := hF3.box (hF2.box (hF1.box k3 fun h => h) (nk b3 (by omega))) (by omega)
    have k7' := ((k7.fr hF1 fun _ _ h => h).fr hF2 fun b h hc => k11 b hc h).fr hF3 fun b h hc => by subst hc; exact nh b (by omega) h
    have l5 := k5'.load (P := Tryz.prog) (o := 0) (t := 32) Tryz.underlying32 rfl rfl
    simp only [zaa,zab,zac,zad,zae,zaf,zag,zah,zai,zaj,zak,zal,zam,zan,zao,zap,zaq,zar,zas,zat,zau,zav,zaw,zax,zay,zaz,zba,aUn,zbb,zbc,zbd,zbe,zbf,zbg,zbh,zbi,zbj,zbk,zbl,zbm,zbn,flat,simple,zbo,zbp,zbq,zbr,zbs,zbt,zbu,zbv,zbw,zbx,zby,zbz,zca,zcb,zcc,zcd,zce,zcf,zcg,zch,zci,zcj,zck,zcl,zcm,zcn,zco,zcp,zcq,zcr,Nat.reduceEqDiff,Nat.reduceLT,Nat.reduceAdd,Nat.reduceSub,reduceIte,Kt_P,zcs,zct,zcu,zcv,zcw,zcx,zcy,zcz,zda,zdb,zdc,zdd,zde,zdf,zdg,zdh,zdi,zdj,zdk,reduceCtorEq,zdl,zdm,zdn,goInt,zdo,zdp,zdq,zdr,zds,zdt,zdu,zdv,zdw,zdx,zdy,zdz,zea,zeb,zec,zed,zdk,zee,zef,zeg,zeh,zei,zej,zek,zel,zem,zen,zeo,zep,zeq,zer,zes,zet,zeu,zev,zew,zex,zey,ya,yb,yc,yd,ye,yf,ts_int,ts_int64,ts_bool,ts_ints,ts_post,ts_posts,yg,yh,yi,yj,yk,yl,ym,ts_intsl,ts_int64s,ts_bools,ts_side,ts_sideb,ts_pints,ts_pbool,aPure,aLen,l5]
    refine OpW_buildSlice_of (cs := [(.slice uo un uc)]) Tryz.underlying32 ts_ints tz_ints (by decide) rfl rfl rfl fun q3 C4 hq3 hm4 hF4 hQ3 => ?_
    simp only [zaa,zab,zac,zad,zae,zaf,zag,zah,zai,zaj,zak,zal,zam,zan,zao,zap,zaq,zar,zas,zat,zau,zav,zaw,zax,zay,zaz,zba,aUn,zbb,zbc,zbd,zbe,zbf,zbg,zbh,zbi,zbj,zbk,zbl,zbm,zbn,flat,simple,zbo,zbp,zbq,zbr,zbs,zbt,zbu,zbv,zbw,zbx,zby,zbz,zca,zcb,zcc,zcd,zce,zcf,zcg,zch,zci,zcj,zck,zcl,zcm,zcn,zco,zcp,zcq,zcr,Nat.reduceEqDiff,Nat.reduceLT,Nat.reduceAdd,Nat.reduceSub,reduceIte,Kt_P,zcs,zct,zcu,zcv,zcw,zcx,zcy,zcz,zda,zdb,zdc,zdd,zde,zdf,zdg,zdh,zdi,zdj,zdk,reduceCtorEq,zdl,zdm,zdn,goInt,zdo,zdp,zdq,zdr,zds,zdt,zdu,zdv,zdw,zdx,zdy,zdz,zea,zeb,zec,zed,zdk,zee,zef,zeg,zeh,zei,zej,zek,zel,zem,zen,zeo,zep,zeq,zer,zes,zet,zeu,zev,zew,zex,zey,ya,yb,yc,yd,ye,yf,ts_int,ts_int64,ts_bool,ts_ints,ts_post,ts_posts,yg,yh,yi,yj,yk,yl,ym,ts_intsl,ts_int64s,ts_bools,ts_side,ts_sideb,ts_pints,ts_pbool,aPure,aLen]
    refine OpW_append_of (n := i) (k := 1) ⟨rfl, rfl⟩ Tryz.underlying32 (by rw [Kt_P, Tryz.underlying32]; rfl) ts_ints tb_ints tz_ints (by simp only [zaa,zab,zac,zad,zae,zaf,zag,zah,zai,zaj,zak,zal,zam,zan,zao,zap,zaq,zar,zas,zat,zau,zav,zaw,zax,zay,zaz,zba,aUn,zbb,zbc,zbd,zbe,zbf,zbg,zbh,zbi,zbj,zbk,zbl,zbm,zbn,flat,simple,zbo,zbp,zbq,zbr,zbs,zbt,zbu,zbv,zbw,zbx,zby,zbz,zca,zcb,zcc,zcd,zce,zcf,zcg,zch,zci,zcj,zck,zcl,zcm,zcn,zco,zcp,zcq,zcr,Nat.reduceEqDiff,Nat.reduceLT,Nat.reduceAdd,Nat.reduceSub,reduceIte,Kt_P,zcs,zct,zcu,zcv,zcw,zcx,zcy,zcz,zda,zdb,zdc,zdd,zde,zdf,zdg,zdh,zdi,zdj,zdk,reduceCtorEq,zdl,zdm,zdn,goInt,zdo,zdp,zdq,zdr,zds,zdt,zdu,zdv,zdw,zdx,zdy,zdz,zea,zeb,zec,zed,zdk,zee,zef,zeg,zeh,zei,zej,zek,zel,zem,zen,zeo,zep,zeq,zer,zes,zet,zeu,zev,zew,zex,zey,ya,yb,yc,yd,ye,yf,ts_int,ts_int64,ts_bool,ts_ints,ts_post,ts_posts,yg,yh,yi,yj,yk,yl,ym,ts_intsl,ts_int64s,ts_bools,ts_side,ts_sideb,ts_pints,ts_pbool,aPure,aLen]; exact aSrc_box hQ3 rfl) ⟨rfl, rfl⟩ (by omega) ⟨by omega, rfl, by omega, by omega⟩
      (k7'.fr hF4 fun _ _ h => h) fun q4 C5 hq4 hm5 hF5 hA5 => ?_
    simp only [zaa,zab,zac,zad,zae,zaf,zag,zah,zai,zaj,zak,zal,zam,zan,zao,zap,zaq,zar,zas,zat,zau,zav,zaw,zax,zay,zaz,zba,aUn,zbb,zbc,zbd,zbe,zbf,zbg,zbh,zbi,zbj,zbk,zbl,zbm,zbn,flat,simple,zbo,zbp,zbq,zbr,zbs,zbt,zbu,zbv,zbw,zbx,zby,zbz,zca,zcb,zcc,zcd,zce,zcf,zcg,zch,zci,zcj,zck,zcl,zcm,zcn,zco,zcp,zcq,zcr,Nat.reduceEqDiff,Nat.reduceLT,Nat.reduceAdd,Nat.reduceSub,reduceIte,Kt_P,zcs,zct,zcu,zcv,zcw,zcx,zcy,zcz,zda,zdb,zdc,zdd,zde,zdf,zdg,zdh,zdi,zdj,zdk,reduceCtorEq,zdl,zdm,zdn,goInt,zdo,zdp,zdq,zdr,zds,zdt,zdu,zdv,zdw,zdx,zdy,zdz,zea,zeb,zec,zed,zdk,zee,zef,zeg,zeh,zei,zej,zek,zel,zem,zen,zeo,zep,zeq,zer,zes,zet,zeu,zev,zew,zex,zey,ya,yb,yc,yd,ye,yf,ts_int,ts_int64,ts_bool,ts_ints,ts_post,ts_posts,yg,yh,yi,yj,yk,yl,ym,ts_intsl,ts_int64s,ts_bools,ts_side,ts_sideb,ts_pints,ts_pbool,aPure,aLen] at hF5 hA5 ⊢
    have k5'' := hF5.box (hF4.box k5' fun h => h) (nh b5 (by omega))
    refine OpW_store_of k5'' ⟨rfl, rfl⟩ rfl ts_intsl (Nat.le_refl _) rfl fun C6 hm6 hF6 hB7 => ?_
    replace hB7 : Box C6 b5 32 [.slice (some ⟨q4, 0, none⟩) (i + 1) (i + 1)] := hB7
    simp only [zaa,zab,zac,zad,zae,zaf,zag,zah,zai,zaj,zak,zal,zam,zan,zao,zap,zaq,zar,zas,zat,zau,zav,zaw,zax,zay,zaz,zba,aUn,zbb,zbc,zbd,zbe,zbf,zbg,zbh,zbi,zbj,zbk,zbl,zbm,zbn,flat,simple,zbo,zbp,zbq,zbr,zbs,zbt,zbu,zbv,zbw,zbx,zby,zbz,zca,zcb,zcc,zcd,zce,zcf,zcg,zch,zci,zcj,zck,zcl,zcm,zcn,zco,zcp,zcq,zcr,Nat.reduceEqDiff,Nat.reduceLT,Nat.reduceAdd,Nat.reduceSub,reduceIte,Kt_P,zcs,zct,zcu,zcv,zcw,zcx,zcy,zcz,zda,zdb,zdc,zdd,zde,zdf,zdg,zdh,zdi,zdj,zdk,reduceCtorEq,zdl,zdm,zdn,goInt,zdo,zdp,zdq,zdr,zds,zdt,zdu,zdv,zdw,zdx,zdy,zdz,zea,zeb,zec,zed,zdk,zee,zef,zeg,zeh,zei,zej,zek,zel,zem,zen,zeo,zep,zeq,zer,zes,zet,zeu,zev,zew,zex,zey,ya,yb,yc,yd,ye,yf,ts_int,ts_int64,ts_bool,ts_ints,ts_post,ts_posts,yg,yh,yi,yj,yk,yl,ym,ts_intsl,ts_int64s,ts_bools,ts_side,ts_sideb,ts_pints,ts_pbool,aPure,aLen]
    have g1 : Fr (fun b => W b ∨ B.next ≤ b) C C3 := Fr.trans (Fr.trans (W' := blockOf kv) hF1.fr hF2 fun b _ h => .inl (k9 b h).1) hF3 fun b _ h => .inl (by rw [h]; exact k12)
    have g2 : Fr (fun b => W b ∨ B.next ≤ b) C3 C6 := Fr.trans (Fr.trans (W' := blockOf hv) hF4.fr hF5 fun b _ h => .inl (k10 b h).1) hF6 fun b _ h => .inl (by rw [h]; exact k13)
    have g := g1.trans g2 fun _ _ h => h
    refine ⟨g, fun _ => ⟨_, _, vs ++ [(.slice uo un uc)], hF6.box (hF5.box (hF4.box k3' fun h => h) (nh b3 (by omega))) (by omega), hF6.box (hF5.box (hF4.box hB6 fun h => h) (nh b4 (by omega))) (by omega), hB7, ?_, hA5.fr hF6 (fun b h => by simp only [blockOf] at h; omega), ?_, ?_, ?_, ?_, .inl k12, .inl k13, ?_⟩, fun h => by first | exact absurd rfl h | exact False.elim h⟩
    · have e1 : ints ((bs.take (i + 1)).map (·.1)) = ints ((bs.take i).map (·.1)) ++ [.int .i64 bs[i].1] := by
        rw [List.take_succ_eq_append_getElem hib]; simp only [ints,List.map_append,List.map_cons,List.map_nil]
      rw [e1]
      exact (((hA2.fr hF3 fun b h => by simp only [blockOf] at h; omega).fr hF4 fun _ _ h => h).fr hF5 fun b h hc => by simp only [blockOf] at h; have := (hWB b (k10 b hc).1).1; omega).fr hF6 fun b h => by simp only [blockOf] at h; omega
    · intro j h h' h''
      by_cases hj : j < i
      · have hv1 : j < vs.length := by have := k7.1; omega
        rw [List.getElem_append_left hv1]
        exact Ints_dk _ _ _ _ g.dat (k8 j hj h' hv1)
      · have hje : j = i := by omega
        subst hje
        have hv1 : vs.length = j := by have := k7.1; omega
        rw [List.getElem_append_right (by omega)]
        simp only [List.getElem_singleton]
        exact Ints_dk _ _ _ _ (fun b el cells hd => g.dat _ _ _ (hCF.dat _ _ _ hd)) hu'
    · intro b h
      simp only [blockOf] at h
      exact ⟨.inr (by omega), by omega⟩
    · intro b h
      simp only [blockOf] at h
      exact ⟨.inr (by omega), by omega⟩
    · intro b h h'
      simp only [blockOf] at h h'
      omega
    · exact hR.stab _ _ _ _ k14 (g.keep fun b _ h => ⟨h.elim (fun h => by have := (hWB b h).2.2.2; omega) (fun h => by omega), fun hw => by
        have := (hW b hw).1
        rcases h with h | h
        · have := (hWB b h).2.2.2; omega
        · omega⟩)
  · rintro W B hlt hF hWB ⟨kv, hv, vs, k3, k4, k5, k6, k7, k8, k9, k10, k11, k12, k13, k14⟩
    have hT : Tog Ints 2 59 122 123 32 lp b3 b4 b5 bs B := ⟨kv, hv, vs, k3, k4, k5, by simpa using k6.elems, k7.elems, fun j h h' => k8 j h h h'⟩
    have hAB : Ext A1 B := Fr.trans hE15 hF fun b hb hc => by omega
    clear k3 k4 k5 k6 k7 k8 k9 k10 k11 k12 k13
    simp only [zaa,zab,zac,zad,zae,zaf,zag,zah,zai,zaj,zak,zal,zam,zan,zao,zap,zaq,zar,zas,zat,zau,zav,zaw,zax,zay,zaz,zba,aUn,zbb,zbc,zbd,zbe,zbf,zbg,zbh,zbi,zbj,zbk,zbl,zbm,zbn,flat,simple,zbo,zbp,zbq,zbr,zbs,zbt,zbu,zbv,zbw,zbx,zby,zbz,zca,zcb,zcc,zcd,zce,zcf,zcg,zch,zci,zcj,zck,zcl,zcm,zcn,zco,zcp,zcq,zcr,Nat.reduceEqDiff,Nat.reduceLT,Nat.reduceAdd,Nat.reduceSub,reduceIte,Kt_P,zcs,zct,zcu,zcv,zcw,zcx,zcy,zcz,zda,zdb,zdc,zdd,zde,zdf,zdg,zdh,zdi,zdj,zdk,reduceCtorEq,zdl,zdm,zdn,goInt,zdo,zdp,zdq,zdr,zds,zdt,zdu,zdv,zdw,zdx,zdy,zdz,zea,zeb,zec,zed,zdk,zee,zef,zeg,zeh,zei,zej,zek,zel,zem,zen,zeo,zep,zeq,zer,zes,zet,zeu,zev,zew,zex,zey,ya,yb,yc,yd,ye,yf,ts_int,ts_int64,ts_bool,ts_ints,ts_post,ts_posts,yg,yh,yi,yj,yk,yl,ym,ts_intsl,ts_int64s,ts_bools,ts_side,ts_sideb,ts_pints,ts_pbool,aPure,aLen]
    refine OpW_alloc_of ts_int tz_int rfl fun b8 D1 hb8 hm8 hE8 hB8 => ?_
    simp only [zaa,zab,zac,zad,zae,zaf,zag,zah,zai,zaj,zak,zal,zam,zan,zao,zap,zaq,zar,zas,zat,zau,zav,zaw,zax,zay,zaz,zba,aUn,zbb,zbc,zbd,zbe,zbf,zbg,zbh,zbi,zbj,zbk,zbl,zbm,zbn,flat,simple,zbo,zbp,zbq,zbr,zbs,zbt,zbu,zbv,zbw,zbx,zby,zbz,zca,zcb,zcc,zcd,zce,zcf,zcg,zch,zci,zcj,zck,zcl,zcm,zcn,zco,zcp,zcq,zcr,Nat.reduceEqDiff,Nat.reduceLT,Nat.reduceAdd,Nat.reduceSub,reduceIte,Kt_P,zcs,zct,zcu,zcv,zcw,zcx,zcy,zcz,zda,zdb,zdc,zdd,zde,zdf,zdg,zdh,zdi,zdj,zdk,reduceCtorEq,zdl,zdm,zdn,goInt,zdo,zdp,zdq,zdr,zds,zdt,zdu,zdv,zdw,zdx,zdy,zdz,zea,zeb,zec,zed,zdk,zee,zef,zeg,zeh,zei,zej,zek,zel,zem,zen,zeo,zep,zeq,zer,zes,zet,zeu,zev,zew,zex,zey,ya,yb,yc,yd,ye,yf,ts_int,ts_int64,ts_bool,ts_ints,ts_post,ts_posts,yg,yh,yi,yj,yk,yl,ym,ts_intsl,ts_int64s,ts_bools,ts_side,ts_sideb,ts_pints,ts_pbool,aPure,aLen]
    refine OpW_store_of hB8 ⟨rfl, rfl⟩ rfl ts_int (Nat.le_refl _) rfl fun D2 hm9 hF9 hB9 => ?_
    replace hB9 : Box D2 b8 3 [.int .i64 0] := hB9
    have hBD : Ext B D2 := Fr.trans hE8 hF9 fun b hb hc => by omega
    have hAD : Ext A1 D2 := hAB.trans hBD
    have hla := (hAD.box hba fun h => h).load (P := Tryz.prog) (o := 0) (t := 73) Tryz.underlying73 rfl rfl
    simp only [zaa,zab,zac,zad,zae,zaf,zag,zah,zai,zaj,zak,zal,zam,zan,zao,zap,zaq,zar,zas,zat,zau,zav,zaw,zax,zay,zaz,zba,aUn,zbb,zbc,zbd,zbe,zbf,zbg,zbh,zbi,zbj,zbk,zbl,zbm,zbn,flat,simple,zbo,zbp,zbq,zbr,zbs,zbt,zbu,zbv,zbw,zbx,zby,zbz,zca,zcb,zcc,zcd,zce,zcf,zcg,zch,zci,zcj,zck,zcl,zcm,zcn,zco,zcp,zcq,zcr,Nat.reduceEqDiff,Nat.reduceLT,Nat.reduceAdd,Nat.reduceSub,reduceIte,Kt_P,zcs,zct,zcu,zcv,zcw,zcx,zcy,zcz,zda,zdb,zdc,zdd,zde,zdf,zdg,zdh,zdi,zdj,zdk,reduceCtorEq,zdl,zdm,zdn,goInt,zdo,zdp,zdq,zdr,zds,zdt,zdu,zdv,zdw,zdx,zdy,zdz,zea,zeb,zec,zed,zdk,zee,zef,zeg,zeh,zei,zej,zek,zel,zem,zen,zeo,zep,zeq,zer,zes,zet,zeu,zev,zew,zex,zey,ya,yb,yc,yd,ye,yf,ts_int,ts_int64,ts_bool,ts_ints,ts_post,ts_posts,yg,yh,yi,yj,yk,yl,ym,ts_intsl,ts_int64s,ts_bools,ts_side,ts_sideb,ts_pints,ts_pbool,aPure,aLen,hla]
    have hT2 := hT.fr Ints_dk hBD ⟨fun h => h, fun h => h, fun h => h⟩
    have hI2 := hR.stab _ _ _ _ k14 (hBD.keep (base := A1.next) fun _ _ h => h.elim)
    have hn : ∀ b, W1 b → b < A1.next := fun b hb => (hW b hb).1
    have hBn := hAB.next
    refine range_of rfl (ia.fr hAD fun b _ h => h) (by simp only [zaa,zab,zac,zad,zae,zaf,zag,zah,zai,zaj,zak,zal,zam,zan,zao,zap,zaq,zar,zas,zat,zau,zav,zaw,zax,zay,zaz,zba,aUn,zbb,zbc,zbd,zbe,zbf,zbg,zbh,zbi,zbj,zbk,zbl,zbm,zbn,flat,simple,zbo,zbp,zbq,zbr,zbs,zbt,zbu,zbv,zbw,zbx,zby,zbz,zca,zcb,zcc,zcd,zce,zcf,zcg,zch,zci,zcj,zck,zcl,zcm,zcn,zco,zcp,zcq,zcr,Nat.reduceEqDiff,Nat.reduceLT,Nat.reduceAdd,Nat.reduceSub,reduceIte,Kt_P,zcs,zct,zcu,zcv,zcw,zcx,zcy,zcz,zda,zdb,zdc,zdd,zde,zdf,zdg,zdh,zdi,zdj,zdk,reduceCtorEq,zdl,zdm,zdn,goInt,zdo,zdp,zdq,zdr,zds,zdt,zdu,zdv,zdw,zdx,zdy,zdz,zea,zeb,zec,zed,zdk,zee,zef,zeg,zeh,zei,zej,zek,zel,zem,zen,zeo,zep,zeq,zer,zes,zet,zeu,zev,zew,zex,zey,ya,yb,yc,yd,ye,yf,ts_int,ts_int64,ts_bool,ts_ints,ts_post,ts_posts,yg,yh,yi,yj,yk,yl,ym,ts_intsl,ts_int64s,ts_bools,ts_side,ts_sideb,ts_pints,ts_pbool,aPure,aLen])
      (fun i W D => ∃ (j cnt : Nat) (Wo : Nat → Prop), j ≤ bs.length ∧ cnt ≤ (mrg xs bs).length ∧ (mrg xs bs).drop cnt = mrg (xs.drop i) (bs.drop j) ∧ I cnt Wo D ∧ Box D b8 3 [.int .i64 j] ∧ Tog Ints 2 59 122 123 32 lp b3 b4 b5 bs D ∧
        (∀ b, Wo b → W b ∧ b < D.next ∧ (W1 b ∨ b8 < b)) ∧ W b8)
      (fun x W D => x = .ret ∧ ∃ Wo, S Wo D ∧ ∀ b, Wo b → W b ∧ b < D.next ∧ (W1 b ∨ b8 < b)) (fun b => W1 b ∨ b = b8) ?_ ?_ ?_ ?_ ?_ ?_ ?_
    · intro D hE
      exact ⟨0, 0, W1, by omega, by omega, by simp, hR.stab _ _ _ _ hI2 (hE.keep fun _ _ h => h.elim), hE.box hB9 fun h => h, hT2.fr Ints_dk hE ⟨fun h => h, fun h => h, fun h => h⟩, fun b hb => ⟨.inl hb, by have := hn b hb; have := hE.next; omega, .inl hb⟩, .inr rfl⟩
    · rintro b (hb | rfl)
      · exact ⟨by have := hn b hb; omega, fun h => (hW b hb).2 (.inr (.inr (.inl h)))⟩
      · exact ⟨by omega, fun h => by have := ia.1 _ h; omega⟩
    · rintro i W D D' ⟨j, cnt, Wo, g1, g2, g3, g4, g5, g6, g7, g8⟩ hK
      refine ⟨j, cnt, Wo, g1, g2, g3, hR.stab _ _ _ _ g4 (hK.low (by omega) fun b hb => .inr (g7 b hb).1), hK.box g5 (.inr g8), ?_, fun b hb => ⟨(g7 b hb).1, Nat.lt_of_lt_of_le (g7 b hb).2.1 hK.next, (g7 b hb).2.2⟩, g8⟩
      obtain ⟨kv, hv, vs, h3, h4, h5, h6, h7, h8⟩ := g6
      exact ⟨kv, hv, vs, hK.box h3 (.inl (by omega)), hK.box h4 (.inl (by omega)), hK.box h5 (.inl (by omega)), hK.elems h6, hK.elems h7, fun j h h' => Ints_dk _ _ _ _ hK.dat (h8 j h h')⟩
    · rintro x W D D' ⟨rfl, Wo, g1, g2⟩ hK
      exact ⟨rfl, Wo, hR.stabS _ _ _ g1 (hK.low (by omega) fun b hb => .inr (g2 b hb).1), fun b hb => ⟨(g2 b hb).1, Nat.lt_of_lt_of_le (g2 b hb).2.1 hK.next, (g2 b hb).2.2⟩⟩
    · rintro i W E ys hi ⟨j0, cnt0, Wo0, g1, g2, g3, g4, g5, g6, g7, g8⟩ hlt2 hWE ⟨hia, u, rfl, hu⟩ _
      refine ⟨rfl, _, rfl, ?_⟩
      obtain ⟨uo, un, uc, hu0⟩ := Ints.isSlice hu; subst hu0; have hu' := hu
      simp only [zaa,zab,zac,zad,zae,zaf,zag,zah,zai,zaj,zak,zal,zam,zan,zao,zap,zaq,zar,zas,zat,zau,zav,zaw,zax,zay,zaz,zba,aUn,zbb,zbc,zbd,zbe,zbf,zbg,zbh,zbi,zbj,zbk,zbl,zbm,zbn,flat,simple,zbo,zbp,zbq,zbr,zbs,zbt,zbu,zbv,zbw,zbx,zby,zbz,zca,zcb,zcc,zcd,zce,zcf,zcg,zch,zci,zcj,zck,zcl,zcm,zcn,zco,zcp,zcq,zcr,Nat.reduceEqDiff,Nat.reduceLT,Nat.reduceAdd,Nat.reduceSub,reduceIte,Kt_P,zcs,zct,zcu,zcv,zcw,zcx,zcy,zcz,zda,zdb,zdc,zdd,zde,zdf,zdg,zdh,zdi,zdj,zdk,reduceCtorEq,zdl,zdm,zdn,goInt,zdo,zdp,zdq,zdr,zds,zdt,zdu,zdv,zdw,zdx,zdy,zdz,zea,zeb,zec,zed,zdk,zee,zef,zeg,zeh,zei,zej,zek,zel,zem,zen,zeo,zep,zeq,zer,zes,zet,zeu,zev,zew,zex,zey,ya,yb,yc,yd,ye,yf,ts_int,ts_int64,ts_bool,ts_ints,ts_post,ts_posts,yg,yh,yi,yj,yk,yl,ym,ts_intsl,ts_int64s,ts_bools,ts_side,ts_sideb,ts_pints,ts_pbool,aPure,aLen]
      refine OpW_alloc_of ts_ints tz_ints rfl fun b10 E1 hb10 hm10 hE10 hB10 => ?_
      simp only [zaa,zab,zac,zad,zae,zaf,zag,zah,zai,zaj,zak,zal,zam,zan,zao,zap,zaq,zar,zas,zat,zau,zav,zaw,zax,zay,zaz,zba,aUn,zbb,zbc,zbd,zbe,zbf,zbg,zbh,zbi,zbj,zbk,zbl,zbm,zbn,flat,simple,zbo,zbp,zbq,zbr,zbs,zbt,zbu,zbv,zbw,zbx,zby,zbz,zca,zcb,zcc,zcd,zce,zcf,zcg,zch,zci,zcj,zck,zcl,zcm,zcn,zco,zcp,zcq,zcr,Nat.reduceEqDiff,Nat.reduceLT,Nat.reduceAdd,Nat.reduceSub,reduceIte,Kt_P,zcs,zct,zcu,zcv,zcw,zcx,zcy,zcz,zda,zdb,zdc,zdd,zde,zdf,zdg,zdh,zdi,zdj,zdk,reduceCtorEq,zdl,zdm,zdn,goInt,zdo,zdp,zdq,zdr,zds,zdt,zdu,zdv,zdw,zdx,zdy,zdz,zea,zeb,zec,zed,zdk,zee,zef,zeg,zeh,zei,zej,zek,zel,zem,zen,zeo,zep,zeq,zer,zes,zet,zeu,zev,zew,zex,zey,ya,yb,yc,yd,ye,yf,ts_int,ts_int64,ts_bool,ts_ints,ts_post,ts_posts,yg,yh,yi,yj,yk,yl,ym,ts_intsl,ts_int64s,ts_bools,ts_side,ts_sideb,ts_pints,ts_pbool,aPure,aLen]
      refine OpW_store_of hB10 ⟨rfl, rfl⟩ rfl ts_ints (Nat.le_refl _) rfl fun E2 hm11 hF11 hB11 => ?_
      replace hB11 : Box E2 b10 59 [(.slice uo un uc)] := hB11
      simp only [zaa,zab,zac,zad,zae,zaf,zag,zah,zai,zaj,zak,zal,zam,zan,zao,zap,zaq,zar,zas,zat,zau,zav,zaw,zax,zay,zaz,zba,aUn,zbb,zbc,zbd,zbe,zbf,zbg,zbh,zbi,zbj,zbk,zbl,zbm,zbn,flat,simple,zbo,zbp,zbq,zbr,zbs,zbt,zbu,zbv,zbw,zbx,zby,zbz,zca,zcb,zcc,zcd,zce,zcf,zcg,zch,zci,zcj,zck,zcl,zcm,zcn,zco,zcp,zcq,zcr,Nat.reduceEqDiff,Nat.reduceLT,Nat.reduceAdd,Nat.reduceSub,reduceIte,Kt_P,zcs,zct,zcu,zcv,zcw,zcx,zcy,zcz,zda,zdb,zdc,zdd,zde,zdf,zdg,zdh,zdi,zdj,zdk,reduceCtorEq,zdl,zdm,zdn,goInt,zdo,zdp,zdq,zdr,zds,zdt,zdu,zdv,zdw,zdx,zdy,zdz,zea,zeb,zec,zed,zdk,zee,zef,zeg,zeh,zei,zej,zek,zel,zem,zen,zeo,zep,zeq,zer,zes,zet,zeu,zev,zew,zex,zey,ya,yb,yc,yd,ye,yf,ts_int,ts_int64,ts_bool,ts_ints,ts_post,ts_posts,yg,yh,yi,yj,yk,yl,ym,ts_intsl,ts_int64s,ts_bools,ts_side,ts_sideb,ts_pints,ts_pbool,aPure,aLen]
      have hEE : Ext E E2 := Fr.trans hE10 hF11 fun b hb hc => by omega
      refine ⟨hEE, fun G hGn hGF => ?_⟩
      have hEG : Fr (fun b => b = D2.next) E G := Fr.trans hEE.fr hGF fun _ _ h => h
      have q5 := hEG.box g5 (by omega)
      have q6 := g6.fr Ints_dk hEG ⟨by omega, by omega, by omega⟩
      have q10 := hGF.box hB11 (by omega)
      have q4 := hR.stab _ _ _ _ g4 (hEG.keep (base := A1.next) fun b _ hb => ⟨by omega, fun hw => (hWE b (g7 b hw).1).2.2.1 hb⟩)
      have qu : Ints G (.slice uo un uc) xs[i].2 := Ints_dk _ _ _ _ hEG.dat hu'
      rw [List.drop_eq_getElem_cons hi] at g3
      refine Lop_inv (fun k e C => ∃ (j cnt : Nat) (Wo : Nat → Prop), (e 3 = .pointer (some ⟨b3, 0, none⟩) ∧ e 4 = .pointer (some ⟨b4, 0, none⟩) ∧ e 5 = .pointer (some ⟨b5, 0, none⟩) ∧ e 8 = .pointer (some ⟨b8, 0, none⟩) ∧ e 9 = .int .i64 xs[i].1 ∧ e 10 = .pointer (some ⟨b10, 0, none⟩)) ∧
          k = bs.length - j ∧ j ≤ bs.length ∧ cnt ≤ (mrg xs bs).length ∧ (mrg xs bs).drop cnt = mrg (xs[i] :: xs.drop (i + 1)) (bs.drop j) ∧ I cnt Wo C ∧ Box C b8 3 [.int .i64 j] ∧ Box C b10 59 [(.slice uo un uc)] ∧ Ints C (.slice uo un uc) xs[i].2 ∧
          Tog Ints 2 59 122 123 32 lp b3 b4 b5 bs C ∧ (∀ b, Wo b → (W b ∨ E.next ≤ b) ∧ b < C.next ∧ (W1 b ∨ b8 < b) ∧ b ≠ b10) ∧ Fr (fun b => W b ∨ E.next ≤ b) G C)
        ?_ (bs.length - j0) _ _ ⟨j0, cnt0, Wo0, by simp [put_at], rfl, g1, g2, g3, q4, q5, q10, qu, q6, fun b hb => ⟨.inl (g7 b hb).1, by have := (g7 b hb).2.1; omega, (g7 b hb).2.2, by have := (g7 b hb).2.1; omega⟩, Fr.refl _ _⟩
      clear q4 q5 q6 q10 qu g1 g2 g3 g4 g5 g6 g7
      rintro k e C ⟨j, cnt, Wo, ⟨e3, e4, e5, e8, e9, e10⟩, rfl, c1, c2, c3, c4, c5, c10, cu, c6, c7, cF⟩
      have hGC := cF.next
      have c6' := c6
      obtain ⟨kv, hv, vs, t3, t4, t5, t6, t7, t8⟩ := c6
      obtain ⟨okk, hokk, _, dkk⟩ := t6.opened
      obtain ⟨okh, hokh, hlen, dkh⟩ := t7.opened
      subst hokk; subst hokh
      have l8 := c5.load (P := Tryz.prog) (o := 0) (t := 3) Tryz.underlying3 rfl rfl
      have l3 := t3.load (P := Tryz.prog) (o := 0) (t := 122) Tryz.underlying122 rfl rfl
      have l4 := t4.load (P := Tryz.prog) (o := 0) (t := 123) Tryz.underlying123 rfl rfl
      have l5 := t5.load (P := Tryz.prog) (o := 0) (t := 32) Tryz.underlying32 rfl rfl
      have hWo : ∀ b, Wo b → b < C.next ∧ ¬ (b = ba ∨ b = bb ∨ Rda b ∨ Rdb b) := fun b hb => ⟨(c7 b hb).2.1, (c7 b hb).2.2.1.elim (fun h => (hW b h).2) fun h hc => by
        have h1 := hba.1
        have h2 := hbb.1
        rcases hc with h3 | h3 | h3 | h3
        · omega
        · omega
        · have := ia.1 b h3; omega
        · have := ib.1 b h3; omega⟩
      have hbase : A1.next ≤ C.next := by omega
      simp only [zaa,zab,zac,zad,zae,zaf,zag,zah,zai,zaj,zak,zal,zam,zan,zao,zap,zaq,zar,zas,zat,zau,zav,zaw,zax,zay,zaz,zba,aUn,zbb,zbc,zbd,zbe,zbf,zbg,zbh,zbi,zbj,zbk,zbl,zbm,zbn,flat,simple,zbo,zbp,zbq,zbr,zbs,zbt,zbu,zbv,zbw,zbx,zby,zbz,zca,zcb,zcc,zcd,zce,zcf,zcg,zch,zci,zcj,zck,zcl,zcm,zcn,zco,zcp,zcq,zcr,Nat.reduceEqDiff,Nat.reduceLT,Nat.reduceAdd,Nat.reduceSub,reduceIte,Kt_P,zcs,zct,zcu,zcv,zcw,zcx,zcy,zcz,zda,zdb,zdc,zdd,zde,zdf,zdg,zdh,zdi,zdj,zdk,reduceCtorEq,zdl,zdm,zdn,goInt,zdo,zdp,zdq,zdr,zds,zdt,zdu,zdv,zdw,zdx,zdy,zdz,zea,zeb,zec,zed,zdk,zee,zef,zeg,zeh,zei,zej,zek,zel,zem,zen,zeo,zep,zeq,zer,zes,zet,zeu,zev,zew,zex,zey,ya,yb,yc,yd,ye,yf,ts_int,ts_int64,ts_bool,ts_ints,ts_post,ts_posts,yg,yh,yi,yj,yk,yl,ym,ts_intsl,ts_int64s,ts_bools,ts_side,ts_sideb,ts_pints,ts_pbool,aPure,aLen,e3,e4,e5,e8,e9,e10,l8,l4]
      refine Grd_of (fun hj => ?_) (fun hj => ?_)
      · obtain ⟨bk, hbk, hdk⟩ := dkk j hj
        obtain ⟨bh, hbh, hdh⟩ := dkh j hj
        subst hbk; subst hbh
        have lkey := hdk.load (P := Tryz.prog) (o := j) (t := 2) Tryz.underlying2 rfl (v := .int .i64 bs[j].1) (by simp [ints, hj])
        simp only [zaa,zab,zac,zad,zae,zaf,zag,zah,zai,zaj,zak,zal,zam,zan,zao,zap,zaq,zar,zas,zat,zau,zav,zaw,zax,zay,zaz,zba,aUn,zbb,zbc,zbd,zbe,zbf,zbg,zbh,zbi,zbj,zbk,zbl,zbm,zbn,flat,simple,zbo,zbp,zbq,zbr,zbs,zbt,zbu,zbv,zbw,zbx,zby,zbz,zca,zcb,zcc,zcd,zce,zcf,zcg,zch,zci,zcj,zck,zcl,zcm,zcn,zco,zcp,zcq,zcr,Nat.reduceEqDiff,Nat.reduceLT,Nat.reduceAdd,Nat.reduceSub,reduceIte,Kt_P,zcs,zct,zcu,zcv,zcw,zcx,zcy,zcz,zda,zdb,zdc,zdd,zde,zdf,zdg,zdh,zdi,zdj,zdk,reduceCtorEq,zdl,zdm,zdn,goInt,zdo,zdp,zdq,zdr,zds,zdt,zdu,zdv,zdw,zdx,zdy,zdz,zea,zeb,zec,zed,zdk,zee,zef,zeg,zeh,zei,zej,zek,zel,zem,zen,zeo,zep,zeq,zer,zes,zet,zeu,zev,zew,zex,zey,ya,yb,yc,yd,ye,yf,ts_int,ts_int64,ts_bool,ts_ints,ts_post,ts_posts,yg,yh,yi,yj,yk,yl,ym,ts_intsl,ts_int64s,ts_bools,ts_side,ts_sideb,ts_pints,ts_pbool,aPure,aLen,e3,e4,e5,e8,e9,e10,l8,l4,lkey,hj]
        refine Way_of (fun hless => ?_) (fun hmore => ?_)
        · rw [List.drop_eq_getElem_cons hj, mrg_lt hless] at c3
          obtain ⟨hcnt, hitem, hrest⟩ := drop_head c3
          simp only [zaa,zab,zac,zad,zae,zaf,zag,zah,zai,zaj,zak,zal,zam,zan,zao,zap,zaq,zar,zas,zat,zau,zav,zaw,zax,zay,zaz,zba,aUn,zbb,zbc,zbd,zbe,zbf,zbg,zbh,zbi,zbj,zbk,zbl,zbm,zbn,flat,simple,zbo,zbp,zbq,zbr,zbs,zbt,zbu,zbv,zbw,zbx,zby,zbz,zca,zcb,zcc,zcd,zce,zcf,zcg,zch,zci,zcj,zck,zcl,zcm,zcn,zco,zcp,zcq,zcr,Nat.reduceEqDiff,Nat.reduceLT,Nat.reduceAdd,Nat.reduceSub,reduceIte,Kt_P,zcs,zct,zcu,zcv,zcw,zcx,zcy,zcz,zda,zdb,zdc,zdd,zde,zdf,zdg,zdh,zdi,zdj,zdk,reduceCtorEq,zdl,zdm,zdn,goInt,zdo,zdp,zdq,zdr,zds,zdt,zdu,zdv,zdw,zdx,zdy,zdz,zea,zeb,zec,zed,zdk,zee,zef,zeg,zeh,zei,zej,zek,zel,zem,zen,zeo,zep,zeq,zer,zes,zet,zeu,zev,zew,zex,zey,ya,yb,yc,yd,ye,yf,ts_int,ts_int64,ts_bool,ts_ints,ts_post,ts_posts,yg,yh,yi,yj,yk,yl,ym,ts_intsl,ts_int64s,ts_bools,ts_side,ts_sideb,ts_pints,ts_pbool,aPure,aLen]
          rw [Cod_draw (by kernel_rfl) (by kernel_rfl)]
          simp only [zaa,zab,zac,zad,zae,zaf,zag,zah,zai,zaj,zak,zal,zam,zan,zao,zap,zaq,zar,zas,zat,zau,zav,zaw,zax,zay,zaz,zba,aUn,zbb,zbc,zbd,zbe,zbf,zbg,zbh,zbi,zbj,zbk,zbl,zbm,zbn,flat,simple,zbo,zbp,zbq,zbr,zbs,zbt,zbu,zbv,zbw,zbx,zby,zbz,zca,zcb,zcc,zcd,zce,zcf,zcg,zch,zci,zcj,zck,zcl,zcm,zcn,zco,zcp,zcq,zcr,Nat.reduceEqDiff,Nat.reduceLT,Nat.reduceAdd,Nat.reduceSub,reduceIte,Kt_P,zcs,zct,zcu,zcv,zcw,zcx,zcy,zcz,zda,zdb,zdc,zdd,zde,zdf,zdg,zdh,zdi,zdj,zdk,reduceCtorEq,zdl,zdm,zdn,goInt,zdo,zdp,zdq,zdr,zds,zdt,zdu,zdv,zdw,zdx,zdy,zdz,zea,zeb,zec,zed,zdk,zee,zef,zeg,zeh,zei,zej,zek,zel,zem,zen,zeo,zep,zeq,zer,zes,zet,zeu,zev,zew,zex,zey,ya,yb,yc,yd,ye,yf,ts_int,ts_int64,ts_bool,ts_ints,ts_post,ts_posts,yg,yh,yi,yj,yk,yl,ym,ts_intsl,ts_int64s,ts_bools,ts_side,ts_sideb,ts_pints,ts_pbool,aPure,aLen,e3,e4,e5,e8,e9,e10,l8,l3,l4,l5,lkey,hj,bs_side]
          have hjv : j < vs.length := by omega
          refine (hR.round cnt Wo C _ hcnt c4 hbase hWo ⟨hcnt, .pointer none, .pointer (some ⟨bh, j, none⟩), by rw [hitem], by rw [hitem]; rfl, ?_⟩).mono ?_
          · rw [hitem]
            obtain ⟨rr, r1, r2, _⟩ := hdh.arow
            exact ⟨bh, j, rr, vs[j], rfl, hdh.1, r1, by rw [r2]; simp [hjv], t8 j hj hjv⟩
          · rintro res C' ⟨Wo', hF', hW', hcase⟩
            have HP := Ints_dk
            have hFr := cF.trans hF' fun b hb hc => (c7 b hc).1
            have nW : ∀ b, A1.next ≤ b → b ≤ b8 → ¬ Wo b := fun b h1 h2 hc => (c7 b hc).2.2.1.elim (fun h => by have := hn b h; omega) fun h => by omega
            have c5' := hF'.box c5 (nW b8 (by omega) (Nat.le_refl _))
            have c10' := hF'.box c10 fun hc => (c7 b10 hc).2.2.2 rfl
            have cu' := HP _ _ _ _ hF'.dat cu
            have c6'' := c6'.fr HP hF' ⟨nW b3 (by omega) (by omega), nW b4 (by omega) (by omega), nW b5 (by omega) (by omega)⟩
            have c7' : ∀ b, Wo' b → (W b ∨ E.next ≤ b) ∧ b < C'.next ∧ (W1 b ∨ b8 < b) ∧ b ≠ b10 := fun b hb => by
              obtain ⟨h1, h2 | h2⟩ := hW' b hb
              · exact ⟨(c7 b h2).1, h1, (c7 b h2).2.2⟩
              · have := cF.next
                exact ⟨.inr (by omega), h1, .inr (by omega), by omega⟩
            rcases hcase with ⟨rfl, hI'⟩ | ⟨rfl, hS'⟩
            · have l8' := c5'.load (P := Tryz.prog) (o := 0) (t := 3) Tryz.underlying3 rfl rfl
              simp only [zaa,zab,zac,zad,zae,zaf,zag,zah,zai,zaj,zak,zal,zam,zan,zao,zap,zaq,zar,zas,zat,zau,zav,zaw,zax,zay,zaz,zba,aUn,zbb,zbc,zbd,zbe,zbf,zbg,zbh,zbi,zbj,zbk,zbl,zbm,zbn,flat,simple,zbo,zbp,zbq,zbr,zbs,zbt,zbu,zbv,zbw,zbx,zby,zbz,zca,zcb,zcc,zcd,zce,zcf,zcg,zch,zci,zcj,zck,zcl,zcm,zcn,zco,zcp,zcq,zcr,Nat.reduceEqDiff,Nat.reduceLT,Nat.reduceAdd,Nat.reduceSub,reduceIte,Kt_P,zcs,zct,zcu,zcv,zcw,zcx,zcy,zcz,zda,zdb,zdc,zdd,zde,zdf,zdg,zdh,zdi,zdj,zdk,reduceCtorEq,zdl,zdm,zdn,goInt,zdo,zdp,zdq,zdr,zds,zdt,zdu,zdv,zdw,zdx,zdy,zdz,zea,zeb,zec,zed,zdk,zee,zef,zeg,zeh,zei,zej,zek,zel,zem,zen,zeo,zep,zeq,zer,zes,zet,zeu,zev,zew,zex,zey,ya,yb,yc,yd,ye,yf,ts_int,ts_int64,ts_bool,ts_ints,ts_post,ts_posts,yg,yh,yi,yj,yk,yl,ym,ts_intsl,ts_int64s,ts_bools,ts_side,ts_sideb,ts_pints,ts_pbool,aPure,aLen,e8,l8',wrap_succ hj (show (bs.length : Int) < _ by omega)]
              refine OpW_store_of (o := 0) c5' ⟨rfl, rfl⟩ (by simp only [zaa,zab,zac,zad,zae,zaf,zag,zah,zai,zaj,zak,zal,zam,zan,zao,zap,zaq,zar,zas,zat,zau,zav,zaw,zax,zay,zaz,zba,aUn,zbb,zbc,zbd,zbe,zbf,zbg,zbh,zbi,zbj,zbk,zbl,zbm,zbn,flat,simple,zbo,zbp,zbq,zbr,zbs,zbt,zbu,zbv,zbw,zbx,zby,zbz,zca,zcb,zcc,zcd,zce,zcf,zcg,zch,zci,zcj,zck,zcl,zcm,zcn,zco,zcp,zcq,zcr,Nat.reduceEqDiff,Nat.reduceLT,Nat.reduceAdd,Nat.reduceSub,reduceIte,Kt_P,zcs,zct,zcu,zcv,zcw,zcx,zcy,zcz,zda,zdb,zdc,zdd,zde,zdf,zdg,zdh,zdi,zdj,zdk,reduceCtorEq,zdl,zdm,zdn,goInt,zdo,zdp,zdq,zdr,zds,zdt,zdu,zdv,zdw,zdx,zdy,zdz,zea,zeb,zec,zed,zdk,zee,zef,zeg,zeh,zei,zej,zek,zel,zem,zen,zeo,zep,zeq,zer,zes,zet,zeu,zev,zew,zex,zey,ya,yb,yc,yd,ye,yf,ts_int,ts_int64,ts_bool,ts_ints,ts_post,ts_posts,yg,yh,yi,yj,yk,yl,ym,ts_intsl,ts_int64s,ts_bools,ts_side,ts_sideb,ts_pints,ts_pbool,aPure,aLen,e8]) ts_int (Nat.le_refl _) rfl fun C2 hm2 hF2 hB2 => ?_
              replace hB2 : Box C2 b8 3 [.int .i64 ((j + 1 : Nat) : Int)] := hB2
              simp only [zaa,zab,zac,zad,zae,zaf,zag,zah,zai,zaj,zak,zal,zam,zan,zao,zap,zaq,zar,zas,zat,zau,zav,zaw,zax,zay,zaz,zba,aUn,zbb,zbc,zbd,zbe,zbf,zbg,zbh,zbi,zbj,zbk,zbl,zbm,zbn,flat,simple,zbo,zbp,zbq,zbr,zbs,zbt,zbu,zbv,zbw,zbx,zby,zbz,zca,zcb,zcc,zcd,zce,zcf,zcg,zch,zci,zcj,zck,zcl,zcm,zcn,zco,zcp,zcq,zcr,Nat.reduceEqDiff,Nat.reduceLT,Nat.reduceAdd,Nat.reduceSub,reduceIte,Kt_P,zcs,zct,zcu,zcv,zcw,zcx,zcy,zcz,zda,zdb,zdc,zdd,zde,zdf,zdg,zdh,zdi,zdj,zdk,reduceCtorEq,zdl,zdm,zdn,goInt,zdo,zdp,zdq,zdr,zds,zdt,zdu,zdv,zdw,zdx,zdy,zdz,zea,zeb,zec,zed,zdk,zee,zef,zeg,zeh,zei,zej,zek,zel,zem,zen,zeo,zep,zeq,zer,zes,zet,zeu,zev,zew,zex,zey,ya,yb,yc,yd,ye,yf,ts_int,ts_int64,ts_bool,ts_ints,ts_post,ts_posts,yg,yh,yi,yj,yk,yl,ym,ts_intsl,ts_int64s,ts_bools,ts_side,ts_sideb,ts_pints,ts_pbool,aPure,aLen]
              have nb : ∀ b, Wo' b → b ≠ b8 := fun b hb h => (c7' b hb).2.2.1.elim (fun h1 => by have := hn b h1; omega) fun h1 => by omega
              have := cF.next
              exact ⟨bs.length - (j + 1), by omega, j + 1, cnt + 1, Wo', by simp [put_at, e3, e4, e5, e8, e9, e10], rfl, by omega, by omega, hrest, hR.stab _ _ _ _ hI' (hF2.keep fun b _ h => ⟨by omega, fun h1 => nb b h1 h⟩),
                hB2, hF2.box c10' (by omega), HP _ _ _ _ hF2.dat cu', c6''.fr HP hF2 ⟨by omega, by omega, by omega⟩, fun b hb => ⟨(c7' b hb).1, by have := (c7' b hb).2.1; omega, (c7' b hb).2.2⟩, hFr.trans hF2 fun b _ h => .inl (by rw [h]; exact g8)⟩
            · simp only [zaa,zab,zac,zad,zae,zaf,zag,zah,zai,zaj,zak,zal,zam,zan,zao,zap,zaq,zar,zas,zat,zau,zav,zaw,zax,zay,zaz,zba,aUn,zbb,zbc,zbd,zbe,zbf,zbg,zbh,zbi,zbj,zbk,zbl,zbm,zbn,flat,simple,zbo,zbp,zbq,zbr,zbs,zbt,zbu,zbv,zbw,zbx,zby,zbz,zca,zcb,zcc,zcd,zce,zcf,zcg,zch,zci,zcj,zck,zcl,zcm,zcn,zco,zcp,zcq,zcr,Nat.reduceEqDiff,Nat.reduceLT,Nat.reduceAdd,Nat.reduceSub,reduceIte,Kt_P,zcs,zct,zcu,zcv,zcw,zcx,zcy,zcz,zda,zdb,zdc,zdd,zde,zdf,zdg,zdh,zdi,zdj,zdk,reduceCtorEq,zdl,zdm,zdn,goInt,zdo,zdp,zdq,zdr,zds,zdt,zdu,zdv,zdw,zdx,zdy,zdz,zea,zeb,zec,zed,zdk,zee,zef,zeg,zeh,zei,zej,zek,zel,zem,zen,zeo,zep,zeq,zer,zes,zet,zeu,zev,zew,zex,zey,ya,yb,yc,yd,ye,yf,ts_int,ts_int64,ts_bool,ts_ints,ts_post,ts_posts,yg,yh,yi,yj,yk,yl,ym,ts_intsl,ts_int64s,ts_bools,ts_side,ts_sideb,ts_pints,ts_pbool,aPure,aLen]
              refine ⟨hFr, fun h => (by cases h), fun _ => ⟨Wo', hS', fun b hb => ⟨(c7' b hb).1.imp id fun h => ⟨h, (c7' b hb).2.1⟩, (c7' b hb).2.1, (c7' b hb).2.2.1⟩⟩⟩
        · simp only [zaa,zab,zac,zad,zae,zaf,zag,zah,zai,zaj,zak,zal,zam,zan,zao,zap,zaq,zar,zas,zat,zau,zav,zaw,zax,zay,zaz,zba,aUn,zbb,zbc,zbd,zbe,zbf,zbg,zbh,zbi,zbj,zbk,zbl,zbm,zbn,flat,simple,zbo,zbp,zbq,zbr,zbs,zbt,zbu,zbv,zbw,zbx,zby,zbz,zca,zcb,zcc,zcd,zce,zcf,zcg,zch,zci,zcj,zck,zcl,zcm,zcn,zco,zcp,zcq,zcr,Nat.reduceEqDiff,Nat.reduceLT,Nat.reduceAdd,Nat.reduceSub,reduceIte,Kt_P,zcs,zct,zcu,zcv,zcw,zcx,zcy,zcz,zda,zdb,zdc,zdd,zde,zdf,zdg,zdh,zdi,zdj,zdk,reduceCtorEq,zdl,zdm,zdn,goInt,zdo,zdp,zdq,zdr,zds,zdt,zdu,zdv,zdw,zdx,zdy,zdz,zea,zeb,zec,zed,zdk,zee,zef,zeg,zeh,zei,zej,zek,zel,zem,zen,zeo,zep,zeq,zer,zes,zet,zeu,zev,zew,zex,zey,ya,yb,yc,yd,ye,yf,ts_int,ts_int64,ts_bool,ts_ints,ts_post,ts_posts,yg,yh,yi,yj,yk,yl,ym,ts_intsl,ts_int64s,ts_bools,ts_side,ts_sideb,ts_pints,ts_pbool,aPure,aLen,e10,as_side]
          refine OpW_alloc_of ts_side tz_side rfl fun b11 C1 hb11 hm1 hF1 hB1 => ?_
          simp only [zaa,zab,zac,zad,zae,zaf,zag,zah,zai,zaj,zak,zal,zam,zan,zao,zap,zaq,zar,zas,zat,zau,zav,zaw,zax,zay,zaz,zba,aUn,zbb,zbc,zbd,zbe,zbf,zbg,zbh,zbi,zbj,zbk,zbl,zbm,zbn,flat,simple,zbo,zbp,zbq,zbr,zbs,zbt,zbu,zbv,zbw,zbx,zby,zbz,zca,zcb,zcc,zcd,zce,zcf,zcg,zch,zci,zcj,zck,zcl,zcm,zcn,zco,zcp,zcq,zcr,Nat.reduceEqDiff,Nat.reduceLT,Nat.reduceAdd,Nat.reduceSub,reduceIte,Kt_P,zcs,zct,zcu,zcv,zcw,zcx,zcy,zcz,zda,zdb,zdc,zdd,zde,zdf,zdg,zdh,zdi,zdj,zdk,reduceCtorEq,zdl,zdm,zdn,goInt,zdo,zdp,zdq,zdr,zds,zdt,zdu,zdv,zdw,zdx,zdy,zdz,zea,zeb,zec,zed,zdk,zee,zef,zeg,zeh,zei,zej,zek,zel,zem,zen,zeo,zep,zeq,zer,zes,zet,zeu,zev,zew,zex,zey,ya,yb,yc,yd,ye,yf,ts_int,ts_int64,ts_bool,ts_ints,ts_post,ts_posts,yg,yh,yi,yj,yk,yl,ym,ts_intsl,ts_int64s,ts_bools,ts_side,ts_sideb,ts_pints,ts_pbool,aPure,aLen]
          refine OpW_store_of (o := 0) hB1 ⟨rfl, rfl⟩ rfl ts_side (Nat.le_refl _) rfl fun C2 hm2 hF2 hB2 => ?_
          replace hB2 : Box C2 b11 66 [.pointer (some ⟨b10, 0, none⟩), .pointer none] := hB2
          have hX : Ext C C2 := Fr.trans hF1 hF2 fun b hb hc => by omega
          have HP := Ints_dk
          have h811 : b8 < b11 := by have := c5.1; omega
          have h1011 : b10 < b11 := by have := c10.1; omega
          have hWo11 : ∀ b, Wo b → b < b11 := fun b hb => by have := (c7 b hb).2.1; omega
          replace c4 := hR.stab _ _ _ _ c4 (hX.keep (base := A1.next) fun _ _ h => h.elim)
          replace c5 := hX.box c5 fun h => h
          replace c10 := hX.box c10 fun h => h
          replace cu := HP _ _ _ _ hX.dat cu
          replace c6' := c6'.fr HP hX ⟨fun h => h, fun h => h, fun h => h⟩
          replace t3 := hX.box t3 fun h => h
          replace t4 := hX.box t4 fun h => h
          replace t5 := hX.box t5 fun h => h
          replace c7 : ∀ b, Wo b → (W b ∨ E.next ≤ b) ∧ b < C2.next ∧ (W1 b ∨ b8 < b) ∧ b ≠ b10 := fun b hb => ⟨(c7 b hb).1, by have := (c7 b hb).2.1; omega, (c7 b hb).2.2⟩
          replace cF := Fr.trans cF hX fun b _ h => False.elim h
          replace hWo : ∀ b, Wo b → b < C2.next ∧ ¬ (b = ba ∨ b = bb ∨ Rda b ∨ Rdb b) := fun b hb => ⟨(c7 b hb).2.1, (hWo b hb).2⟩
          replace hbase : A1.next ≤ C2.next := by omega
          have l8 := c5.load (P := Tryz.prog) (o := 0) (t := 3) Tryz.underlying3 rfl rfl
          have l3 := t3.load (P := Tryz.prog) (o := 0) (t := 122) Tryz.underlying122 rfl rfl
          have l4 := t4.load (P := Tryz.prog) (o := 0) (t := 123) Tryz.underlying123 rfl rfl
          have l5 := t5.load (P := Tryz.prog) (o := 0) (t := 32) Tryz.underlying32 rfl rfl
          replace hdh := hX.dat _ _ _ hdh
          replace lkey := (hX.dat _ _ _ hdk).load (P := Tryz.prog) (o := j) (t := 2) Tryz.underlying2 rfl (v := .int .i64 bs[j].1) (by simp [ints, hj])
          simp only [zaa,zab,zac,zad,zae,zaf,zag,zah,zai,zaj,zak,zal,zam,zan,zao,zap,zaq,zar,zas,zat,zau,zav,zaw,zax,zay,zaz,zba,aUn,zbb,zbc,zbd,zbe,zbf,zbg,zbh,zbi,zbj,zbk,zbl,zbm,zbn,flat,simple,zbo,zbp,zbq,zbr,zbs,zbt,zbu,zbv,zbw,zbx,zby,zbz,zca,zcb,zcc,zcd,zce,zcf,zcg,zch,zci,zcj,zck,zcl,zcm,zcn,zco,zcp,zcq,zcr,Nat.reduceEqDiff,Nat.reduceLT,Nat.reduceAdd,Nat.reduceSub,reduceIte,Kt_P,zcs,zct,zcu,zcv,zcw,zcx,zcy,zcz,zda,zdb,zdc,zdd,zde,zdf,zdg,zdh,zdi,zdj,zdk,reduceCtorEq,zdl,zdm,zdn,goInt,zdo,zdp,zdq,zdr,zds,zdt,zdu,zdv,zdw,zdx,zdy,zdz,zea,zeb,zec,zed,zdk,zee,zef,zeg,zeh,zei,zej,zek,zel,zem,zen,zeo,zep,zeq,zer,zes,zet,zeu,zev,zew,zex,zey,ya,yb,yc,yd,ye,yf,ts_int,ts_int64,ts_bool,ts_ints,ts_post,ts_posts,yg,yh,yi,yj,yk,yl,ym,ts_intsl,ts_int64s,ts_bools,ts_side,ts_sideb,ts_pints,ts_pbool,aPure,aLen,e3,e4,e5,e8,e9,e10,l8,l4,lkey,hj]
          rw [List.drop_eq_getElem_cons hj] at c3
          refine Way_of (fun heq => ?_) (fun hne => ?_)
          · simp only [zaa,zab,zac,zad,zae,zaf,zag,zah,zai,zaj,zak,zal,zam,zan,zao,zap,zaq,zar,zas,zat,zau,zav,zaw,zax,zay,zaz,zba,aUn,zbb,zbc,zbd,zbe,zbf,zbg,zbh,zbi,zbj,zbk,zbl,zbm,zbn,flat,simple,zbo,zbp,zbq,zbr,zbs,zbt,zbu,zbv,zbw,zbx,zby,zbz,zca,zcb,zcc,zcd,zce,zcf,zcg,zch,zci,zcj,zck,zcl,zcm,zcn,zco,zcp,zcq,zcr,Nat.reduceEqDiff,Nat.reduceLT,Nat.reduceAdd,Nat.reduceSub,reduceIte,Kt_P,zcs,zct,zcu,zcv,zcw,zcx,zcy,zcz,zda,zdb,zdc,zdd,zde,zdf,zdg,zdh,zdi,zdj,zdk,reduceCtorEq,zdl,zdm,zdn,goInt,zdo,zdp,zdq,zdr,zds,zdt,zdu,zdv,zdw,zdx,zdy,zdz,zea,zeb,zec,zed,zdk,zee,zef,zeg,zeh,zei,zej,zek,zel,zem,zen,zeo,zep,zeq,zer,zes,zet,zeu,zev,zew,zex,zey,ya,yb,yc,yd,ye,yf,ts_int,ts_int64,ts_bool,ts_ints,ts_post,ts_posts,yg,yh,yi,yj,yk,yl,ym,ts_intsl,ts_int64s,ts_bools,ts_side,ts_sideb,ts_pints,ts_pbool,aPure,aLen,e5,e8,l5,l8,hj]
            refine OpW_store_of (o := 1) hB2 ⟨rfl, rfl⟩ (by simp only [zaa,zab,zac,zad,zae,zaf,zag,zah,zai,zaj,zak,zal,zam,zan,zao,zap,zaq,zar,zas,zat,zau,zav,zaw,zax,zay,zaz,zba,aUn,zbb,zbc,zbd,zbe,zbf,zbg,zbh,zbi,zbj,zbk,zbl,zbm,zbn,flat,simple,zbo,zbp,zbq,zbr,zbs,zbt,zbu,zbv,zbw,zbx,zby,zbz,zca,zcb,zcc,zcd,zce,zcf,zcg,zch,zci,zcj,zck,zcl,zcm,zcn,zco,zcp,zcq,zcr,Nat.reduceEqDiff,Nat.reduceLT,Nat.reduceAdd,Nat.reduceSub,reduceIte,Kt_P,zcs,zct,zcu,zcv,zcw,zcx,zcy,zcz,zda,zdb,zdc,zdd,zde,zdf,zdg,zdh,zdi,zdj,zdk,reduceCtorEq,zdl,zdm,zdn,goInt,zdo,zdp,zdq,zdr,zds,zdt,zdu,zdv,zdw,zdx,zdy,zdz,zea,zeb,zec,zed,zdk,zee,zef,zeg,zeh,zei,zej,zek,zel,zem,zen,zeo,zep,zeq,zer,zes,zet,zeu,zev,zew,zex,zey,ya,yb,yc,yd,ye,yf,ts_int,ts_int64,ts_bool,ts_ints,ts_post,ts_posts,yg,yh,yi,yj,yk,yl,ym,ts_intsl,ts_int64s,ts_bools,ts_side,ts_sideb,ts_pints,ts_pbool,aPure,aLen]) ts_pints (Nat.le_refl _) rfl fun C3 hm3 hF3 hB3 => ?_
            replace hB3 : Box C3 b11 66 [.pointer (some ⟨b10, 0, none⟩), .pointer (some ⟨bh, j, none⟩)] := hB3
            have c5a := hF3.box c5 (by omega)
            have l8a := c5a.load (P := Tryz.prog) (o := 0) (t := 3) Tryz.underlying3 rfl rfl
            simp only [zaa,zab,zac,zad,zae,zaf,zag,zah,zai,zaj,zak,zal,zam,zan,zao,zap,zaq,zar,zas,zat,zau,zav,zaw,zax,zay,zaz,zba,aUn,zbb,zbc,zbd,zbe,zbf,zbg,zbh,zbi,zbj,zbk,zbl,zbm,zbn,flat,simple,zbo,zbp,zbq,zbr,zbs,zbt,zbu,zbv,zbw,zbx,zby,zbz,zca,zcb,zcc,zcd,zce,zcf,zcg,zch,zci,zcj,zck,zcl,zcm,zcn,zco,zcp,zcq,zcr,Nat.reduceEqDiff,Nat.reduceLT,Nat.reduceAdd,Nat.reduceSub,reduceIte,Kt_P,zcs,zct,zcu,zcv,zcw,zcx,zcy,zcz,zda,zdb,zdc,zdd,zde,zdf,zdg,zdh,zdi,zdj,zdk,reduceCtorEq,zdl,zdm,zdn,goInt,zdo,zdp,zdq,zdr,zds,zdt,zdu,zdv,zdw,zdx,zdy,zdz,zea,zeb,zec,zed,zdk,zee,zef,zeg,zeh,zei,zej,zek,zel,zem,zen,zeo,zep,zeq,zer,zes,zet,zeu,zev,zew,zex,zey,ya,yb,yc,yd,ye,yf,ts_int,ts_int64,ts_bool,ts_ints,ts_post,ts_posts,yg,yh,yi,yj,yk,yl,ym,ts_intsl,ts_int64s,ts_bools,ts_side,ts_sideb,ts_pints,ts_pbool,aPure,aLen,e8,l8a,wrap_succ hj (show (bs.length : Int) < _ by omega)]
            refine OpW_store_of (o := 0) c5a ⟨rfl, rfl⟩ (by simp only [zaa,zab,zac,zad,zae,zaf,zag,zah,zai,zaj,zak,zal,zam,zan,zao,zap,zaq,zar,zas,zat,zau,zav,zaw,zax,zay,zaz,zba,aUn,zbb,zbc,zbd,zbe,zbf,zbg,zbh,zbi,zbj,zbk,zbl,zbm,zbn,flat,simple,zbo,zbp,zbq,zbr,zbs,zbt,zbu,zbv,zbw,zbx,zby,zbz,zca,zcb,zcc,zcd,zce,zcf,zcg,zch,zci,zcj,zck,zcl,zcm,zcn,zco,zcp,zcq,zcr,Nat.reduceEqDiff,Nat.reduceLT,Nat.reduceAdd,Nat.reduceSub,reduceIte,Kt_P,zcs,zct,zcu,zcv,zcw,zcx,zcy,zcz,zda,zdb,zdc,zdd,zde,zdf,zdg,zdh,zdi,zdj,zdk,reduceCtorEq,zdl,zdm,zdn,goInt,zdo,zdp,zdq,zdr,zds,zdt,zdu,zdv,zdw,zdx,zdy,zdz,zea,zeb,zec,zed,zdk,zee,zef,zeg,zeh,zei,zej,zek,zel,zem,zen,zeo,zep,zeq,zer,zes,zet,zeu,zev,zew,zex,zey,ya,yb,yc,yd,ye,yf,ts_int,ts_int64,ts_bool,ts_ints,ts_post,ts_posts,yg,yh,yi,yj,yk,yl,ym,ts_intsl,ts_int64s,ts_bools,ts_side,ts_sideb,ts_pints,ts_pbool,aPure,aLen,e8]) ts_int (Nat.le_refl _) rfl fun C4 hm4 hF4 hB5 => ?_
            replace c5 : Box C4 b8 3 [.int .i64 ((j + 1 : Nat) : Int)] := hB5
            have hY : Fr (fun b => b = b11 ∨ b = b8) C2 C4 := Fr.trans (hF3.weaken fun b _ h => .inl h) hF4 fun b _ h => .inr h
            have nb : ∀ b, Wo b → b ≠ b8 := fun b hb h => (c7 b hb).2.2.1.elim (fun h1 => by have := hn b h1; omega) fun h1 => by omega
            have hjv : j < vs.length := by omega
            have t8' := HP _ _ _ _ hY.dat (HP _ _ _ _ hX.dat (t8 j hj hjv))
            replace hdh := hY.dat _ _ _ hdh
            replace hB2 := hF4.box hB3 (by omega)
            replace c4 := hR.stab _ _ _ _ c4 (hY.keep (base := A1.next) fun b _ h => ⟨by omega, fun hw => h.elim (fun h => by have := hWo11 b hw; omega) fun h => nb b hw h⟩)
            replace c10 := hY.box c10 (by omega)
            replace cu := HP _ _ _ _ hY.dat cu
            replace c6' := c6'.fr HP hY ⟨by omega, by omega, by omega⟩
            replace t3 := hY.box t3 (by omega)
            replace l3 := t3.load (P := Tryz.prog) (o := 0) (t := 122) Tryz.underlying122 rfl rfl
            replace c7 : ∀ b, Wo b → (W b ∨ E.next ≤ b) ∧ b < C4.next ∧ (W1 b ∨ b8 < b) ∧ b ≠ b10 := fun b hb => ⟨(c7 b hb).1, by have := (c7 b hb).2.1; omega, (c7 b hb).2.2⟩
            replace cF := Fr.trans cF hY fun b _ h => h.elim (fun h => .inr (by omega)) fun h => .inl (by rw [h]; exact g8)
            replace hWo : ∀ b, Wo b → b < C4.next ∧ ¬ (b = ba ∨ b = bb ∨ Rda b ∨ Rdb b) := fun b hb => ⟨(c7 b hb).2.1, (hWo b hb).2⟩
            replace hbase : A1.next ≤ C4.next := by omega
            rw [mrg_eq heq] at c3
            obtain ⟨hcnt, hitem, hrest⟩ := drop_head c3
            obtain ⟨rr, r1, r2, _⟩ := hdh.arow
            have l11 : aLoadVar Tryz.prog C4 66 (.pointer (some ⟨b11, 0, none⟩)) = some (.agg #[.pointer (some ⟨b10, 0, none⟩), .pointer (some ⟨bh, j, none⟩)]) := hB2.loadAgg (o := 0) Tryz.underlying66 rfl ts_side (Nat.le_refl _)
            simp only [zaa,zab,zac,zad,zae,zaf,zag,zah,zai,zaj,zak,zal,zam,zan,zao,zap,zaq,zar,zas,zat,zau,zav,zaw,zax,zay,zaz,zba,aUn,zbb,zbc,zbd,zbe,zbf,zbg,zbh,zbi,zbj,zbk,zbl,zbm,zbn,flat,simple,zbo,zbp,zbq,zbr,zbs,zbt,zbu,zbv,zbw,zbx,zby,zbz,zca,zcb,zcc,zcd,zce,zcf,zcg,zch,zci,zcj,zck,zcl,zcm,zcn,zco,zcp,zcq,zcr,Nat.reduceEqDiff,Nat.reduceLT,Nat.reduceAdd,Nat.reduceSub,reduceIte,Kt_P,zcs,zct,zcu,zcv,zcw,zcx,zcy,zcz,zda,zdb,zdc,zdd,zde,zdf,zdg,zdh,zdi,zdj,zdk,reduceCtorEq,zdl,zdm,zdn,goInt,zdo,zdp,zdq,zdr,zds,zdt,zdu,zdv,zdw,zdx,zdy,zdz,zea,zeb,zec,zed,zdk,zee,zef,zeg,zeh,zei,zej,zek,zel,zem,zen,zeo,zep,zeq,zer,zes,zet,zeu,zev,zew,zex,zey,ya,yb,yc,yd,ye,yf,ts_int,ts_int64,ts_bool,ts_ints,ts_post,ts_posts,yg,yh,yi,yj,yk,yl,ym,ts_intsl,ts_int64s,ts_bools,ts_side,ts_sideb,ts_pints,ts_pbool,aPure,aLen,e3,e9,l3,l11]
            refine (hR.round cnt Wo C4 _ hcnt c4 hbase hWo ⟨hcnt, .pointer (some ⟨b10, 0, none⟩), .pointer (some ⟨bh, j, none⟩), by rw [hitem], by rw [hitem]; exact ⟨b10, 0, _, (.slice uo un uc), rfl, c10.1, c10.arow, rfl, cu⟩, by rw [hitem]; exact ⟨bh, j, rr, vs[j], rfl, hdh.1, r1, by rw [r2]; simp [hjv], t8'⟩⟩).mono ?_
            rintro res C' ⟨Wo', hF', hW', hcase⟩
            have hFr := cF.trans hF' fun b hb hc => (c7 b hc).1
            have nW : ∀ b, A1.next ≤ b → b ≤ b8 → ¬ Wo b := fun b h1 h2 hc => (c7 b hc).2.2.1.elim (fun h => by have := hn b h; omega) fun h => by omega
            have c5' := hF'.box c5 (nW b8 (by omega) (Nat.le_refl _))
            have c10' := hF'.box c10 fun hc => (c7 b10 hc).2.2.2 rfl
            have cu' := HP _ _ _ _ hF'.dat cu
            have c6'' := c6'.fr HP hF' ⟨nW b3 (by omega) (by omega), nW b4 (by omega) (by omega), nW b5 (by omega) (by omega)⟩
            have c7' : ∀ b, Wo' b → (W b ∨ E.next ≤ b) ∧ b < C'.next ∧ (W1 b ∨ b8 < b) ∧ b ≠ b10 := fun b hb => by
              obtain ⟨h1, h2 | h2⟩ := hW' b hb
              · exact ⟨(c7 b h2).1, h1, (c7 b h2).2.2⟩
              · have := cF.next
                exact ⟨.inr (by omega), h1, .inr (by omega), by omega⟩
            rcases hcase with ⟨rfl, hI'⟩ | ⟨rfl, hS'⟩
            · simp only [zaa,zab,zac,zad,zae,zaf,zag,zah,zai,zaj,zak,zal,zam,zan,zao,zap,zaq,zar,zas,zat,zau,zav,zaw,zax,zay,zaz,zba,aUn,zbb,zbc,zbd,zbe,zbf,zbg,zbh,zbi,zbj,zbk,zbl,zbm,zbn,flat,simple,zbo,zbp,zbq,zbr,zbs,zbt,zbu,zbv,zbw,zbx,zby,zbz,zca,zcb,zcc,zcd,zce,zcf,zcg,zch,zci,zcj,zck,zcl,zcm,zcn,zco,zcp,zcq,zcr,Nat.reduceEqDiff,Nat.reduceLT,Nat.reduceAdd,Nat.reduceSub,reduceIte,Kt_P,zcs,zct,zcu,zcv,zcw,zcx,zcy,zcz,zda,zdb,zdc,zdd,zde,zdf,zdg,zdh,zdi,zdj,zdk,reduceCtorEq,zdl,zdm,zdn,goInt,zdo,zdp,zdq,zdr,zds,zdt,zdu,zdv,zdw,zdx,zdy,zdz,zea,zeb,zec,zed,zdk,zee,zef,zeg,zeh,zei,zej,zek,zel,zem,zen,zeo,zep,zeq,zer,zes,zet,zeu,zev,zew,zex,zey,ya,yb,yc,yd,ye,yf,ts_int,ts_int64,ts_bool,ts_ints,ts_post,ts_posts,yg,yh,yi,yj,yk,yl,ym,ts_intsl,ts_int64s,ts_bools,ts_side,ts_sideb,ts_pints,ts_pbool,aPure,aLen]
              refine ⟨hFr, fun _ => ⟨j + 1, cnt + 1, Wo', ?_, by omega, hrest, hI', c5', c6'', fun b hb => ⟨(c7' b hb).1.imp id fun h => ⟨h, (c7' b hb).2.1⟩, (c7' b hb).2.1, (c7' b hb).2.2.1⟩, .inl g8⟩, fun h => by first | exact absurd rfl h | exact False.elim h⟩
              omega
            · simp only [zaa,zab,zac,zad,zae,zaf,zag,zah,zai,zaj,zak,zal,zam,zan,zao,zap,zaq,zar,zas,zat,zau,zav,zaw,zax,zay,zaz,zba,aUn,zbb,zbc,zbd,zbe,zbf,zbg,zbh,zbi,zbj,zbk,zbl,zbm,zbn,flat,simple,zbo,zbp,zbq,zbr,zbs,zbt,zbu,zbv,zbw,zbx,zby,zbz,zca,zcb,zcc,zcd,zce,zcf,zcg,zch,zci,zcj,zck,zcl,zcm,zcn,zco,zcp,zcq,zcr,Nat.reduceEqDiff,Nat.reduceLT,Nat.reduceAdd,Nat.reduceSub,reduceIte,Kt_P,zcs,zct,zcu,zcv,zcw,zcx,zcy,zcz,zda,zdb,zdc,zdd,zde,zdf,zdg,zdh,zdi,zdj,zdk,reduceCtorEq,zdl,zdm,zdn,goInt,zdo,zdp,zdq,zdr,zds,zdt,zdu,zdv,zdw,zdx,zdy,zdz,zea,zeb,zec,zed,zdk,zee,zef,zeg,zeh,zei,zej,zek,zel,zem,zen,zeo,zep,zeq,zer,zes,zet,zeu,zev,zew,zex,zey,ya,yb,yc,yd,ye,yf,ts_int,ts_int64,ts_bool,ts_ints,ts_post,ts_posts,yg,yh,yi,yj,yk,yl,ym,ts_intsl,ts_int64s,ts_bools,ts_side,ts_sideb,ts_pints,ts_pbool,aPure,aLen]
              refine ⟨hFr, fun h => (by cases h), fun _ => ⟨Wo', hS', fun b hb => ⟨(c7' b hb).1.imp id fun h => ⟨h, (c7' b hb).2.1⟩, (c7' b hb).2.1, (c7' b hb).2.2.1⟩⟩⟩
          · rw [mrg_gt (by omega), ← List.drop_eq_getElem_cons hj] at c3
            obtain ⟨hcnt, hitem, hrest⟩ := drop_head c3
            simp only [zaa,zab,zac,zad,zae,zaf,zag,zah,zai,zaj,zak,zal,zam,zan,zao,zap,zaq,zar,zas,zat,zau,zav,zaw,zax,zay,zaz,zba,aUn,zbb,zbc,zbd,zbe,zbf,zbg,zbh,zbi,zbj,zbk,zbl,zbm,zbn,flat,simple,zbo,zbp,zbq,zbr,zbs,zbt,zbu,zbv,zbw,zbx,zby,zbz,zca,zcb,zcc,zcd,zce,zcf,zcg,zch,zci,zcj,zck,zcl,zcm,zcn,zco,zcp,zcq,zcr,Nat.reduceEqDiff,Nat.reduceLT,Nat.reduceAdd,Nat.reduceSub,reduceIte,Kt_P,zcs,zct,zcu,zcv,zcw,zcx,zcy,zcz,zda,zdb,zdc,zdd,zde,zdf,zdg,zdh,zdi,zdj,zdk,reduceCtorEq,zdl,zdm,zdn,goInt,zdo,zdp,zdq,zdr,zds,zdt,zdu,zdv,zdw,zdx,zdy,zdz,zea,zeb,zec,zed,zdk,zee,zef,zeg,zeh,zei,zej,zek,zel,zem,zen,zeo,zep,zeq,zer,zes,zet,zeu,zev,zew,zex,zey,ya,yb,yc,yd,ye,yf,ts_int,ts_int64,ts_bool,ts_ints,ts_post,ts_posts,yg,yh,yi,yj,yk,yl,ym,ts_intsl,ts_int64s,ts_bools,ts_side,ts_sideb,ts_pints,ts_pbool,aPure,aLen]
            have l11 : aLoadVar Tryz.prog C2 66 (.pointer (some ⟨b11, 0, none⟩)) = some (.agg #[.pointer (some ⟨b10, 0, none⟩), .pointer none]) := hB2.loadAgg (o := 0) Tryz.underlying66 rfl ts_side (Nat.le_refl _)
            simp only [zaa,zab,zac,zad,zae,zaf,zag,zah,zai,zaj,zak,zal,zam,zan,zao,zap,zaq,zar,zas,zat,zau,zav,zaw,zax,zay,zaz,zba,aUn,zbb,zbc,zbd,zbe,zbf,zbg,zbh,zbi,zbj,zbk,zbl,zbm,zbn,flat,simple,zbo,zbp,zbq,zbr,zbs,zbt,zbu,zbv,zbw,zbx,zby,zbz,zca,zcb,zcc,zcd,zce,zcf,zcg,zch,zci,zcj,zck,zcl,zcm,zcn,zco,zcp,zcq,zcr,Nat.reduceEqDiff,Nat.reduceLT,Nat.reduceAdd,Nat.reduceSub,reduceIte,Kt_P,zcs,zct,zcu,zcv,zcw,zcx,zcy,zcz,zda,zdb,zdc,zdd,zde,zdf,zdg,zdh,zdi,zdj,zdk,reduceCtorEq,zdl,zdm,zdn,goInt,zdo,zdp,zdq,zdr,zds,zdt,zdu,zdv,zdw,zdx,zdy,zdz,zea,zeb,zec,zed,zdk,zee,zef,zeg,zeh,zei,zej,zek,zel,zem,zen,zeo,zep,zeq,zer,zes,zet,zeu,zev,zew,zex,zey,ya,yb,yc,yd,ye,yf,ts_int,ts_int64,ts_bool,ts_ints,ts_post,ts_posts,yg,yh,yi,yj,yk,yl,ym,ts_intsl,ts_int64s,ts_bools,ts_side,ts_sideb,ts_pints,ts_pbool,aPure,aLen,e3,e9,l3,l11]
            refine (hR.round cnt Wo C2 _ hcnt c4 hbase hWo ⟨hcnt, .pointer (some ⟨b10, 0, none⟩), .pointer none, by rw [hitem], by rw [hitem]; exact ⟨b10, 0, _, (.slice uo un uc), rfl, c10.1, c10.arow, rfl, cu⟩, by rw [hitem]; exact rfl⟩).mono ?_
            rintro res C' ⟨Wo', hF', hW', hcase⟩
            have hFr := cF.trans hF' fun b hb hc => (c7 b hc).1
            have nW : ∀ b, A1.next ≤ b → b ≤ b8 → ¬ Wo b := fun b h1 h2 hc => (c7 b hc).2.2.1.elim (fun h => by have := hn b h; omega) fun h => by omega
            have c5' := hF'.box c5 (nW b8 (by omega) (Nat.le_refl _))
            have c10' := hF'.box c10 fun hc => (c7 b10 hc).2.2.2 rfl
            have cu' := HP _ _ _ _ hF'.dat cu
            have c6'' := c6'.fr HP hF' ⟨nW b3 (by omega) (by omega), nW b4 (by omega) (by omega), nW b5 (by omega) (by omega)⟩
            have c7' : ∀ b, Wo' b → (W b ∨ E.next ≤ b) ∧ b < C'.next ∧ (W1 b ∨ b8 < b) ∧ b ≠ b10 := fun b hb => by
              obtain ⟨h1, h2 | h2⟩ := hW' b hb
              · exact ⟨(c7 b h2).1, h1, (c7 b h2).2.2⟩
              · have := cF.next
                exact ⟨.inr (by omega), h1, .inr (by omega), by omega⟩
            rcases hcase with ⟨rfl, hI'⟩ | ⟨rfl, hS'⟩
            · simp only [zaa,zab,zac,zad,zae,zaf,zag,zah,zai,zaj,zak,zal,zam,zan,zao,zap,zaq,zar,zas,zat,zau,zav,zaw,zax,zay,zaz,zba,aUn,zbb,zbc,zbd,zbe,zbf,zbg,zbh,zbi,zbj,zbk,zbl,zbm,zbn,flat,simple,zbo,zbp,zbq,zbr,zbs,zbt,zbu,zbv,zbw,zbx,zby,zbz,zca,zcb,zcc,zcd,zce,zcf,zcg,zch,zci,zcj,zck,zcl,zcm,zcn,zco,zcp,zcq,zcr,Nat.reduceEqDiff,Nat.reduceLT,Nat.reduceAdd,Nat.reduceSub,reduceIte,Kt_P,zcs,zct,zcu,zcv,zcw,zcx,zcy,zcz,zda,zdb,zdc,zdd,zde,zdf,zdg,zdh,zdi,zdj,zdk,reduceCtorEq,zdl,zdm,zdn,goInt,zdo,zdp,zdq,zdr,zds,zdt,zdu,zdv,zdw,zdx,zdy,zdz,zea,zeb,zec,zed,zdk,zee,zef,zeg,zeh,zei,zej,zek,zel,zem,zen,zeo,zep,zeq,zer,zes,zet,zeu,zev,zew,zex,zey,ya,yb,yc,yd,ye,yf,ts_int,ts_int64,ts_bool,ts_ints,ts_post,ts_posts,yg,yh,yi,yj,yk,yl,ym,ts_intsl,ts_int64s,ts_bools,ts_side,ts_sideb,ts_pints,ts_pbool,aPure,aLen]
              refine ⟨hFr, fun _ => ⟨j, cnt + 1, Wo', ?_, by omega, hrest, hI', c5', c6'', fun b hb => ⟨(c7' b hb).1.imp id fun h => ⟨h, (c7' b hb).2.1⟩, (c7' b hb).2.1, (c7' b hb).2.2.1⟩, .inl g8⟩, fun h => by first | exact absurd rfl h | exact False.elim h⟩
              omega
            · simp only [zaa,zab,zac,zad,zae,zaf,zag,zah,zai,zaj,zak,zal,zam,zan,zao,zap,zaq,zar,zas,zat,zau,zav,zaw,zax,zay,zaz,zba,aUn,zbb,zbc,zbd,zbe,zbf,zbg,zbh,zbi,zbj,zbk,zbl,zbm,zbn,flat,simple,zbo,zbp,zbq,zbr,zbs,zbt,zbu,zbv,zbw,zbx,zby,zbz,zca,zcb,zcc,zcd,zce,zcf,zcg,zch,zci,zcj,zck,zcl,zcm,zcn,zco,zcp,zcq,zcr,Nat.reduceEqDiff,Nat.reduceLT,Nat.reduceAdd,Nat.reduceSub,reduceIte,Kt_P,zcs,zct,zcu,zcv,zcw,zcx,zcy,zcz,zda,zdb,zdc,zdd,zde,zdf,zdg,zdh,zdi,zdj,zdk,reduceCtorEq,zdl,zdm,zdn,goInt,zdo,zdp,zdq,zdr,zds,zdt,zdu,zdv,zdw,zdx,zdy,zdz,zea,zeb,zec,zed,zdk,zee,zef,zeg,zeh,zei,zej,zek,zel,zem,zen,zeo,zep,zeq,zer,zes,zet,zeu,zev,zew,zex,zey,ya,yb,yc,yd,ye,yf,ts_int,ts_int64,ts_bool,ts_ints,ts_post,ts_posts,yg,yh,yi,yj,yk,yl,ym,ts_intsl,ts_int64s,ts_bools,ts_side,ts_sideb,ts_pints,ts_pbool,aPure,aLen]
              refine ⟨hFr, fun h => (by cases h), fun _ => ⟨Wo', hS', fun b hb => ⟨(c7' b hb).1.imp id fun h => ⟨h, (c7' b hb).2.1⟩, (c7' b hb).2.1, (c7' b hb).2.2.1⟩⟩⟩
      · simp only [zaa,zab,zac,zad,zae,zaf,zag,zah,zai,zaj,zak,zal,zam,zan,zao,zap,zaq,zar,zas,zat,zau,zav,zaw,zax,zay,zaz,zba,aUn,zbb,zbc,zbd,zbe,zbf,zbg,zbh,zbi,zbj,zbk,zbl,zbm,zbn,flat,simple,zbo,zbp,zbq,zbr,zbs,zbt,zbu,zbv,zbw,zbx,zby,zbz,zca,zcb,zcc,zcd,zce,zcf,zcg,zch,zci,zcj,zck,zcl,zcm,zcn,zco,zcp,zcq,zcr,Nat.reduceEqDiff,Nat.reduceLT,Nat.reduceAdd,Nat.reduceSub,reduceIte,Kt_P,zcs,zct,zcu,zcv,zcw,zcx,zcy,zcz,zda,zdb,zdc,zdd,zde,zdf,zdg,zdh,zdi,zdj,zdk,reduceCtorEq,zdl,zdm,zdn,goInt,zdo,zdp,zdq,zdr,zds,zdt,zdu,zdv,zdw,zdx,zdy,zdz,zea,zeb,zec,zed,zdk,zee,zef,zeg,zeh,zei,zej,zek,zel,zem,zen,zeo,zep,zeq,zer,zes,zet,zeu,zev,zew,zex,zey,ya,yb,yc,yd,ye,yf,ts_int,ts_int64,ts_bool,ts_ints,ts_post,ts_posts,yg,yh,yi,yj,yk,yl,ym,ts_intsl,ts_int64s,ts_bools,ts_side,ts_sideb,ts_pints,ts_pbool,aPure,aLen,e3,e4,e5,e8,e9,e10,l8,l4,hj,as_side]
        refine OpW_alloc_of ts_side tz_side rfl fun b11 C1 hb11 hm1 hF1 hB1 => ?_
        simp only [zaa,zab,zac,zad,zae,zaf,zag,zah,zai,zaj,zak,zal,zam,zan,zao,zap,zaq,zar,zas,zat,zau,zav,zaw,zax,zay,zaz,zba,aUn,zbb,zbc,zbd,zbe,zbf,zbg,zbh,zbi,zbj,zbk,zbl,zbm,zbn,flat,simple,zbo,zbp,zbq,zbr,zbs,zbt,zbu,zbv,zbw,zbx,zby,zbz,zca,zcb,zcc,zcd,zce,zcf,zcg,zch,zci,zcj,zck,zcl,zcm,zcn,zco,zcp,zcq,zcr,Nat.reduceEqDiff,Nat.reduceLT,Nat.reduceAdd,Nat.reduceSub,reduceIte,Kt_P,zcs,zct,zcu,zcv,zcw,zcx,zcy,zcz,zda,zdb,zdc,zdd,zde,zdf,zdg,zdh,zdi,zdj,zdk,reduceCtorEq,zdl,zdm,zdn,goInt,zdo,zdp,zdq,zdr,zds,zdt,zdu,zdv,zdw,zdx,zdy,zdz,zea,zeb,zec,zed,zdk,zee,zef,zeg,zeh,zei,zej,zek,zel,zem,zen,zeo,zep,zeq,zer,zes,zet,zeu,zev,zew,zex,zey,ya,yb,yc,yd,ye,yf,ts_int,ts_int64,ts_bool,ts_ints,ts_post,ts_posts,yg,yh,yi,yj,yk,yl,ym,ts_intsl,ts_int64s,ts_bools,ts_side,ts_sideb,ts_pints,ts_pbool,aPure,aLen]
        refine OpW_store_of (o := 0) hB1 ⟨rfl, rfl⟩ rfl ts_side (Nat.le_refl _) rfl fun C2 hm2 hF2 hB2 => ?_
        replace hB2 : Box C2 b11 66 [.pointer (some ⟨b10, 0, none⟩), .pointer none] := hB2
        have hX : Ext C C2 := Fr.trans hF1 hF2 fun b hb hc => by omega
        have HP := Ints_dk
        have h811 : b8 < b11 := by have := c5.1; omega
        have h1011 : b10 < b11 := by have := c10.1; omega
        have hWo11 : ∀ b, Wo b → b < b11 := fun b hb => by have := (c7 b hb).2.1; omega
        replace c4 := hR.stab _ _ _ _ c4 (hX.keep (base := A1.next) fun _ _ h => h.elim)
        replace c5 := hX.box c5 fun h => h
        replace c10 := hX.box c10 fun h => h
        replace cu := HP _ _ _ _ hX.dat cu
        replace c6' := c6'.fr HP hX ⟨fun h => h, fun h => h, fun h => h⟩
        replace t3 := hX.box t3 fun h => h
        replace t4 := hX.box t4 fun h => h
        replace t5 := hX.box t5 fun h => h
        replace c7 : ∀ b, Wo b → (W b ∨ E.next ≤ b) ∧ b < C2.next ∧ (W1 b ∨ b8 < b) ∧ b ≠ b10 := fun b hb => ⟨(c7 b hb).1, by have := (c7 b hb).2.1; omega, (c7 b hb).2.2⟩
        replace cF := Fr.trans cF hX fun b _ h => False.elim h
        replace hWo : ∀ b, Wo b → b < C2.next ∧ ¬ (b = ba ∨ b = bb ∨ Rda b ∨ Rdb b) := fun b hb => ⟨(c7 b hb).2.1, (hWo b hb).2⟩
        replace hbase : A1.next ≤ C2.next := by omega
        have l8 := c5.load (P := Tryz.prog) (o := 0) (t := 3) Tryz.underlying3 rfl rfl
        have l3 := t3.load (P := Tryz.prog) (o := 0) (t := 122) Tryz.underlying122 rfl rfl
        have l4 := t4.load (P := Tryz.prog) (o := 0) (t := 123) Tryz.underlying123 rfl rfl
        have l5 := t5.load (P := Tryz.prog) (o := 0) (t := 32) Tryz.underlying32 rfl rfl
        simp only [zaa,zab,zac,zad,zae,zaf,zag,zah,zai,zaj,zak,zal,zam,zan,zao,zap,zaq,zar,zas,zat,zau,zav,zaw,zax,zay,zaz,zba,aUn,zbb,zbc,zbd,zbe,zbf,zbg,zbh,zbi,zbj,zbk,zbl,zbm,zbn,flat,simple,zbo,zbp,zbq,zbr,zbs,zbt,zbu,zbv,zbw,zbx,zby,zbz,zca,zcb,zcc,zcd,zce,zcf,zcg,zch,zci,zcj,zck,zcl,zcm,zcn,zco,zcp,zcq,zcr,Nat.reduceEqDiff,Nat.reduceLT,Nat.reduceAdd,Nat.reduceSub,reduceIte,Kt_P,zcs,zct,zcu,zcv,zcw,zcx,zcy,zcz,zda,zdb,zdc,zdd,zde,zdf,zdg,zdh,zdi,zdj,zdk,reduceCtorEq,zdl,zdm,zdn,goInt,zdo,zdp,zdq,zdr,zds,zdt,zdu,zdv,zdw,zdx,zdy,zdz,zea,zeb,zec,zed,zdk,zee,zef,zeg,zeh,zei,zej,zek,zel,zem,zen,zeo,zep,zeq,zer,zes,zet,zeu,zev,zew,zex,zey,ya,yb,yc,yd,ye,yf,ts_int,ts_int64,ts_bool,ts_ints,ts_post,ts_posts,yg,yh,yi,yj,yk,yl,ym,ts_intsl,ts_int64s,ts_bools,ts_side,ts_sideb,ts_pints,ts_pbool,aPure,aLen,e3,e4,e5,e8,e9,e10,l8,l4,hj]
        have hnil : bs.drop j = [] := List.drop_of_length_le (by omega)
        rw [hnil, mrg_nilR] at c3
        obtain ⟨hcnt, hitem, hrest⟩ := drop_head c3
        rw [← hnil] at hrest
        have l11 : aLoadVar Tryz.prog C2 66 (.pointer (some ⟨b11, 0, none⟩)) = some (.agg #[.pointer (some ⟨b10, 0, none⟩), .pointer none]) := hB2.loadAgg (o := 0) Tryz.underlying66 rfl ts_side (Nat.le_refl _)
        simp only [zaa,zab,zac,zad,zae,zaf,zag,zah,zai,zaj,zak,zal,zam,zan,zao,zap,zaq,zar,zas,zat,zau,zav,zaw,zax,zay,zaz,zba,aUn,zbb,zbc,zbd,zbe,zbf,zbg,zbh,zbi,zbj,zbk,zbl,zbm,zbn,flat,simple,zbo,zbp,zbq,zbr,zbs,zbt,zbu,zbv,zbw,zbx,zby,zbz,zca,zcb,zcc,zcd,zce,zcf,zcg,zch,zci,zcj,zck,zcl,zcm,zcn,zco,zcp,zcq,zcr,Nat.reduceEqDiff,Nat.reduceLT,Nat.reduceAdd,Nat.reduceSub,reduceIte,Kt_P,zcs,zct,zcu,zcv,zcw,zcx,zcy,zcz,zda,zdb,zdc,zdd,zde,zdf,zdg,zdh,zdi,zdj,zdk,reduceCtorEq,zdl,zdm,zdn,goInt,zdo,zdp,zdq,zdr,zds,zdt,zdu,zdv,zdw,zdx,zdy,zdz,zea,zeb,zec,zed,zdk,zee,zef,zeg,zeh,zei,zej,zek,zel,zem,zen,zeo,zep,zeq,zer,zes,zet,zeu,zev,zew,zex,zey,ya,yb,yc,yd,ye,yf,ts_int,ts_int64,ts_bool,ts_ints,ts_post,ts_posts,yg,yh,yi,yj,yk,yl,ym,ts_intsl,ts_int64s,ts_bools,ts_side,ts_sideb,ts_pints,ts_pbool,aPure,aLen,e3,e9,l3,l11]
        refine (hR.round cnt Wo C2 _ hcnt c4 hbase hWo ⟨hcnt, .pointer (some ⟨b10, 0, none⟩), .pointer none, by rw [hitem], by rw [hitem]; exact ⟨b10, 0, _, (.slice uo un uc), rfl, c10.1, c10.arow, rfl, cu⟩, by rw [hitem]; exact rfl⟩).mono ?_
        rintro res C' ⟨Wo', hF', hW', hcase⟩
        have hFr := cF.trans hF' fun b hb hc => (c7 b hc).1
        have nW : ∀ b, A1.next ≤ b → b ≤ b8 → ¬ Wo b := fun b h1 h2 hc => (c7 b hc).2.2.1.elim (fun h => by have := hn b h; omega) fun h => by omega
        have c5' := hF'.box c5 (nW b8 (by omega) (Nat.le_refl _))
        have c10' := hF'.box c10 fun hc => (c7 b10 hc).2.2.2 rfl
        have cu' := HP _ _ _ _ hF'.dat cu
        have c6'' := c6'.fr HP hF' ⟨nW b3 (by omega) (by omega), nW b4 (by omega) (by omega), nW b5 (by omega) (by omega)⟩
        have c7' : ∀ b, Wo' b → (W b ∨ E.next ≤ b) ∧ b < C'.next ∧ (W1 b ∨ b8 < b) ∧ b ≠ b10 := fun b hb => by
          obtain ⟨h1, h2 | h2⟩ := hW' b hb
          · exact ⟨(c7 b h2).1, h1, (c7 b h2).2.2⟩
          · have := cF.next
            exact ⟨.inr (by omega), h1, .inr (by omega), by omega⟩
        rcases hcase with ⟨rfl, hI'⟩ | ⟨rfl, hS'⟩
        · simp only [zaa,zab,zac,zad,zae,zaf,zag,zah,zai,zaj,zak,zal,zam,zan,zao,zap,zaq,zar,zas,zat,zau,zav,zaw,zax,zay,zaz,zba,aUn,zbb,zbc,zbd,zbe,zbf,zbg,zbh,zbi,zbj,zbk,zbl,zbm,zbn,flat,simple,zbo,zbp,zbq,zbr,zbs,zbt,zbu,zbv,zbw,zbx,zby,zbz,zca,zcb,zcc,zcd,zce,zcf,zcg,zch,zci,zcj,zck,zcl,zcm,zcn,zco,zcp,zcq,zcr,Nat.reduceEqDiff,Nat.reduceLT,Nat.reduceAdd,Nat.reduceSub,reduceIte,Kt_P,zcs,zct,zcu,zcv,zcw,zcx,zcy,zcz,zda,zdb,zdc,zdd,zde,zdf,zdg,zdh,zdi,zdj,zdk,reduceCtorEq,zdl,zdm,zdn,goInt,zdo,zdp,zdq,zdr,zds,zdt,zdu,zdv,zdw,zdx,zdy,zdz,zea,zeb,zec,zed,zdk,zee,zef,zeg,zeh,zei,zej,zek,zel,zem,zen,zeo,zep,zeq,zer,zes,zet,zeu,zev,zew,zex,zey,ya,yb,yc,yd,ye,yf,ts_int,ts_int64,ts_bool,ts_ints,ts_post,ts_posts,yg,yh,yi,yj,yk,yl,ym,ts_intsl,ts_int64s,ts_bools,ts_side,ts_sideb,ts_pints,ts_pbool,aPure,aLen]
          refine ⟨hFr, fun _ => ⟨j, cnt + 1, Wo', ?_, by omega, hrest, hI', c5', c6'', fun b hb => ⟨(c7' b hb).1.imp id fun h => ⟨h, (c7' b hb).2.1⟩, (c7' b hb).2.1, (c7' b hb).2.2.1⟩, .inl g8⟩, fun h => by first | exact absurd rfl h | exact False.elim h⟩
          omega
        · simp only [zaa,zab,zac,zad,zae,zaf,zag,zah,zai,zaj,zak,zal,zam,zan,zao,zap,zaq,zar,zas,zat,zau,zav,zaw,zax,zay,zaz,zba,aUn,zbb,zbc,zbd,zbe,zbf,zbg,zbh,zbi,zbj,zbk,zbl,zbm,zbn,flat,simple,zbo,zbp,zbq,zbr,zbs,zbt,zbu,zbv,zbw,zbx,zby,zbz,zca,zcb,zcc,zcd,zce,zcf,zcg,zch,zci,zcj,zck,zcl,zcm,zcn,zco,zcp,zcq,zcr,Nat.reduceEqDiff,Nat.reduceLT,Nat.reduceAdd,Nat.reduceSub,reduceIte,Kt_P,zcs,zct,zcu,zcv,zcw,zcx,zcy,zcz,zda,zdb,zdc,zdd,zde,zdf,zdg,zdh,zdi,zdj,zdk,reduceCtorEq,zdl,zdm,zdn,goInt,zdo,zdp,zdq,zdr,zds,zdt,zdu,zdv,zdw,zdx,zdy,zdz,zea,zeb,zec,zed,zdk,zee,zef,zeg,zeh,zei,zej,zek,zel,zem,zen,zeo,zep,zeq,zer,zes,zet,zeu,zev,zew,zex,zey,ya,yb,yc,yd,ye,yf,ts_int,ts_int64,ts_bool,ts_ints,ts_post,ts_posts,yg,yh,yi,yj,yk,yl,ym,ts_intsl,ts_int64s,ts_bools,ts_side,ts_sideb,ts_pints,ts_pbool,aPure,aLen]
          refine ⟨hFr, fun h => (by cases h), fun _ => ⟨Wo', hS', fun b hb => ⟨(c7' b hb).1.imp id fun h => ⟨h, (c7' b hb).2.1⟩, (c7' b hb).2.1, (c7' b hb).2.2.1⟩⟩⟩
    · rintro W D hlt2 hF2 hWD ⟨j0, cnt0, Wo0, g1, g2, g3, g4, g5, g6, g7, g8⟩
      simp only [zaa,zab,zac,zad,zae,zaf,zag,zah,zai,zaj,zak,zal,zam,zan,zao,zap,zaq,zar,zas,zat,zau,zav,zaw,zax,zay,zaz,zba,aUn,zbb,zbc,zbd,zbe,zbf,zbg,zbh,zbi,zbj,zbk,zbl,zbm,zbn,flat,simple,zbo,zbp,zbq,zbr,zbs,zbt,zbu,zbv,zbw,zbx,zby,zbz,zca,zcb,zcc,zcd,zce,zcf,zcg,zch,zci,zcj,zck,zcl,zcm,zcn,zco,zcp,zcq,zcr,Nat.reduceEqDiff,Nat.reduceLT,Nat.reduceAdd,Nat.reduceSub,reduceIte,Kt_P,zcs,zct,zcu,zcv,zcw,zcx,zcy,zcz,zda,zdb,zdc,zdd,zde,zdf,zdg,zdh,zdi,zdj,zdk,reduceCtorEq,zdl,zdm,zdn,goInt,zdo,zdp,zdq,zdr,zds,zdt,zdu,zdv,zdw,zdx,zdy,zdz,zea,zeb,zec,zed,zdk,zee,zef,zeg,zeh,zei,zej,zek,zel,zem,zen,zeo,zep,zeq,zer,zes,zet,zeu,zev,zew,zex,zey,ya,yb,yc,yd,ye,yf,ts_int,ts_int64,ts_bool,ts_ints,ts_post,ts_posts,yg,yh,yi,yj,yk,yl,ym,ts_intsl,ts_int64s,ts_bools,ts_side,ts_sideb,ts_pints,ts_pbool,aPure,aLen]
      have hAD2 : Fr W1 A1 D := Fr.trans hAD.fr hF2 fun b hb hc => hc.resolve_right (by omega)
      rw [List.drop_length] at g3
      refine Lop_inv (fun k e C => ∃ (j cnt : Nat) (Wo : Nat → Prop), (e 3 = .pointer (some ⟨b3, 0, none⟩) ∧ e 4 = .pointer (some ⟨b4, 0, none⟩) ∧ e 5 = .pointer (some ⟨b5, 0, none⟩) ∧ e 8 = .pointer (some ⟨b8, 0, none⟩)) ∧
          k = bs.length - j ∧ j ≤ bs.length ∧ cnt ≤ (mrg xs bs).length ∧ (mrg xs bs).drop cnt = mrg [] (bs.drop j) ∧ I cnt Wo C ∧ Box C b8 3 [.int .i64 j] ∧
          Tog Ints 2 59 122 123 32 lp b3 b4 b5 bs C ∧ (∀ b, Wo b → b < C.next ∧ (W1 b ∨ b8 < b)) ∧ Fr W1 A1 C)
        ?_ (bs.length - j0) _ _ ⟨j0, cnt0, Wo0, by simp [put_at], rfl, g1, g2, g3, g4, g5, g6, fun b hb => (g7 b hb).2, hAD2⟩
      clear g1 g2 g3 g4 g5 g6 g7
      rintro k e C ⟨j, cnt, Wo, ⟨e3, e4, e5, e8⟩, rfl, c1, c2, c3, c4, c5, c6, c7, cF⟩
      have hGC := cF.next
      have c6' := c6
      obtain ⟨kv, hv, vs, t3, t4, t5, t6, t7, t8⟩ := c6
      obtain ⟨okk, hokk, _, dkk⟩ := t6.opened
      obtain ⟨okh, hokh, hlen, dkh⟩ := t7.opened
      subst hokk; subst hokh
      have l8 := c5.load (P := Tryz.prog) (o := 0) (t := 3) Tryz.underlying3 rfl rfl
      have l3 := t3.load (P := Tryz.prog) (o := 0) (t := 122) Tryz.underlying122 rfl rfl
      have l4 := t4.load (P := Tryz.prog) (o := 0) (t := 123) Tryz.underlying123 rfl rfl
      have l5 := t5.load (P := Tryz.prog) (o := 0) (t := 32) Tryz.underlying32 rfl rfl
      have hWo : ∀ b, Wo b → b < C.next ∧ ¬ (b = ba ∨ b = bb ∨ Rda b ∨ Rdb b) := fun b hb => ⟨(c7 b hb).1, (c7 b hb).2.elim (fun h => (hW b h).2) fun h hc => by
        have h1 := hba.1
        have h2 := hbb.1
        rcases hc with h3 | h3 | h3 | h3
        · omega
        · omega
        · have := ia.1 b h3; omega
        · have := ib.1 b h3; omega⟩
      simp only [zaa,zab,zac,zad,zae,zaf,zag,zah,zai,zaj,zak,zal,zam,zan,zao,zap,zaq,zar,zas,zat,zau,zav,zaw,zax,zay,zaz,zba,aUn,zbb,zbc,zbd,zbe,zbf,zbg,zbh,zbi,zbj,zbk,zbl,zbm,zbn,flat,simple,zbo,zbp,zbq,zbr,zbs,zbt,zbu,zbv,zbw,zbx,zby,zbz,zca,zcb,zcc,zcd,zce,zcf,zcg,zch,zci,zcj,zck,zcl,zcm,zcn,zco,zcp,zcq,zcr,Nat.reduceEqDiff,Nat.reduceLT,Nat.reduceAdd,Nat.reduceSub,reduceIte,Kt_P,zcs,zct,zcu,zcv,zcw,zcx,zcy,zcz,zda,zdb,zdc,zdd,zde,zdf,zdg,zdh,zdi,zdj,zdk,reduceCtorEq,zdl,zdm,zdn,goInt,zdo,zdp,zdq,zdr,zds,zdt,zdu,zdv,zdw,zdx,zdy,zdz,zea,zeb,zec,zed,zdk,zee,zef,zeg,zeh,zei,zej,zek,zel,zem,zen,zeo,zep,zeq,zer,zes,zet,zeu,zev,zew,zex,zey,ya,yb,yc,yd,ye,yf,ts_int,ts_int64,ts_bool,ts_ints,ts_post,ts_posts,yg,yh,yi,yj,yk,yl,ym,ts_intsl,ts_int64s,ts_bools,ts_side,ts_sideb,ts_pints,ts_pbool,aPure,aLen,e3,e4,e5,e8,l8,l4]
      refine Way_of (fun hj => ?_) (fun hj => ?_)
      · obtain ⟨bk, hbk, hdk⟩ := dkk j hj
        obtain ⟨bh, hbh, hdh⟩ := dkh j hj
        subst hbk; subst hbh
        have lkey := hdk.load (P := Tryz.prog) (o := j) (t := 2) Tryz.underlying2 rfl (v := .int .i64 bs[j].1) (by simp [ints, hj])
        rw [List.drop_eq_getElem_cons hj, mrg_nilL] at c3
        obtain ⟨hcnt, hitem, hrest⟩ := drop_head c3
        simp only [zaa,zab,zac,zad,zae,zaf,zag,zah,zai,zaj,zak,zal,zam,zan,zao,zap,zaq,zar,zas,zat,zau,zav,zaw,zax,zay,zaz,zba,aUn,zbb,zbc,zbd,zbe,zbf,zbg,zbh,zbi,zbj,zbk,zbl,zbm,zbn,flat,simple,zbo,zbp,zbq,zbr,zbs,zbt,zbu,zbv,zbw,zbx,zby,zbz,zca,zcb,zcc,zcd,zce,zcf,zcg,zch,zci,zcj,zck,zcl,zcm,zcn,zco,zcp,zcq,zcr,Nat.reduceEqDiff,Nat.reduceLT,Nat.reduceAdd,Nat.reduceSub,reduceIte,Kt_P,zcs,zct,zcu,zcv,zcw,zcx,zcy,zcz,zda,zdb,zdc,zdd,zde,zdf,zdg,zdh,zdi,zdj,zdk,reduceCtorEq,zdl,zdm,zdn,goInt,zdo,zdp,zdq,zdr,zds,zdt,zdu,zdv,zdw,zdx,zdy,zdz,zea,zeb,zec,zed,zdk,zee,zef,zeg,zeh,zei,zej,zek,zel,zem,zen,zeo,zep,zeq,zer,zes,zet,zeu,zev,zew,zex,zey,ya,yb,yc,yd,ye,yf,ts_int,ts_int64,ts_bool,ts_ints,ts_post,ts_posts,yg,yh,yi,yj,yk,yl,ym,ts_intsl,ts_int64s,ts_bools,ts_side,ts_sideb,ts_pints,ts_pbool,aPure,aLen]
        rw [Cod_draw (by kernel_rfl) (by kernel_rfl)]
        simp only [zaa,zab,zac,zad,zae,zaf,zag,zah,zai,zaj,zak,zal,zam,zan,zao,zap,zaq,zar,zas,zat,zau,zav,zaw,zax,zay,zaz,zba,aUn,zbb,zbc,zbd,zbe,zbf,zbg,zbh,zbi,zbj,zbk,zbl,zbm,zbn,flat,simple,zbo,zbp,zbq,zbr,zbs,zbt,zbu,zbv,zbw,zbx,zby,zbz,zca,zcb,zcc,zcd,zce,zcf,zcg,zch,zci,zcj,zck,zcl,zcm,zcn,zco,zcp,zcq,zcr,Nat.reduceEqDiff,Nat.reduceLT,Nat.reduceAdd,Nat.reduceSub,reduceIte,Kt_P,zcs,zct,zcu,zcv,zcw,zcx,zcy,zcz,zda,zdb,zdc,zdd,zde,zdf,zdg,zdh,zdi,zdj,zdk,reduceCtorEq,zdl,zdm,zdn,goInt,zdo,zdp,zdq,zdr,zds,zdt,zdu,zdv,zdw,zdx,zdy,zdz,zea,zeb,zec,zed,zdk,zee,zef,zeg,zeh,zei,zej,zek,zel,zem,zen,zeo,zep,zeq,zer,zes,zet,zeu,zev,zew,zex,zey,ya,yb,yc,yd,ye,yf,ts_int,ts_int64,ts_bool,ts_ints,ts_post,ts_posts,yg,yh,yi,yj,yk,yl,ym,ts_intsl,ts_int64s,ts_bools,ts_side,ts_sideb,ts_pints,ts_pbool,aPure,aLen,e3,e4,e5,e8,l8,l3,l4,l5,lkey,hj,bs_side]
        have hjv : j < vs.length := by omega
        refine (hR.round cnt Wo C _ hcnt c4 hGC hWo ⟨hcnt, .pointer none, .pointer (some ⟨bh, j, none⟩), by rw [hitem], by rw [hitem]; rfl, ?_⟩).mono ?_
        · rw [hitem]
          obtain ⟨rr, r1, r2, _⟩ := hdh.arow
          exact ⟨bh, j, rr, vs[j], rfl, hdh.1, r1, by rw [r2]; simp [hjv], t8 j hj hjv⟩
        · rintro res C' ⟨Wo', hF', hW', hcase⟩
          have HP := Ints_dk
          have hFr : Fr W1 A1 C' := cF.trans hF' fun b hb hc => (c7 b hc).2.resolve_right (by omega)
          have nW : ∀ b, A1.next ≤ b → b ≤ b8 → ¬ Wo b := fun b h1 h2 hc => (c7 b hc).2.elim (fun h => by have := hn b h; omega) fun h => by omega
          have c5' := hF'.box c5 (nW b8 (by omega) (Nat.le_refl _))
          have c6'' := c6'.fr HP hF' ⟨nW b3 (by omega) (by omega), nW b4 (by omega) (by omega), nW b5 (by omega) (by omega)⟩
          have c7' : ∀ b, Wo' b → b < C'.next ∧ (W1 b ∨ b8 < b) := fun b hb => ⟨(hW' b hb).1, (hW' b hb).2.elim (fun h => (c7 b h).2) fun h => .inr (by have := c5.1; omega)⟩
          rcases hcase with ⟨rfl, hI'⟩ | ⟨rfl, hS'⟩
          · have l8' := c5'.load (P := Tryz.prog) (o := 0) (t := 3) Tryz.underlying3 rfl rfl
            simp only [zaa,zab,zac,zad,zae,zaf,zag,zah,zai,zaj,zak,zal,zam,zan,zao,zap,zaq,zar,zas,zat,zau,zav,zaw,zax,zay,zaz,zba,aUn,zbb,zbc,zbd,zbe,zbf,zbg,zbh,zbi,zbj,zbk,zbl,zbm,zbn,flat,simple,zbo,zbp,zbq,zbr,zbs,zbt,zbu,zbv,zbw,zbx,zby,zbz,zca,zcb,zcc,zcd,zce,zcf,zcg,zch,zci,zcj,zck,zcl,zcm,zcn,zco,zcp,zcq,zcr,Nat.reduceEqDiff,Nat.reduceLT,Nat.reduceAdd,Nat.reduceSub,reduceIte,Kt_P,zcs,zct,zcu,zcv,zcw,zcx,zcy,zcz,zda,zdb,zdc,zdd,zde,zdf,zdg,zdh,zdi,zdj,zdk,reduceCtorEq,zdl,zdm,zdn,goInt,zdo,zdp,zdq,zdr,zds,zdt,zdu,zdv,zdw,zdx,zdy,zdz,zea,zeb,zec,zed,zdk,zee,zef,zeg,zeh,zei,zej,zek,zel,zem,zen,zeo,zep,zeq,zer,zes,zet,zeu,zev,zew,zex,zey,ya,yb,yc,yd,ye,yf,ts_int,ts_int64,ts_bool,ts_ints,ts_post,ts_posts,yg,yh,yi,yj,yk,yl,ym,ts_intsl,ts_int64s,ts_bools,ts_side,ts_sideb,ts_pints,ts_pbool,aPure,aLen,e8,l8',wrap_succ hj (show (bs.length : Int) < _ by omega)]
            refine OpW_store_of (o := 0) c5' ⟨rfl, rfl⟩ (by simp only [zaa,zab,zac,zad,zae,zaf,zag,zah,zai,zaj,zak,zal,zam,zan,zao,zap,zaq,zar,zas,zat,zau,zav,zaw,zax,zay,zaz,zba,aUn,zbb,zbc,zbd,zbe,zbf,zbg,zbh,zbi,zbj,zbk,zbl,zbm,zbn,flat,simple,zbo,zbp,zbq,zbr,zbs,zbt,zbu,zbv,zbw,zbx,zby,zbz,zca,zcb,zcc,zcd,zce,zcf,zcg,zch,zci,zcj,zck,zcl,zcm,zcn,zco,zcp,zcq,zcr,Nat.reduceEqDiff,Nat.reduceLT,Nat.reduceAdd,Nat.reduceSub,reduceIte,Kt_P,zcs,zct,zcu,zcv,zcw,zcx,zcy,zcz,zda,zdb,zdc,zdd,zde,zdf,zdg,zdh,zdi,zdj,zdk,reduceCtorEq,zdl,zdm,zdn,goInt,zdo,zdp,zdq,zdr,zds,zdt,zdu,zdv,zdw,zdx,zdy,zdz,zea,zeb,zec,zed,zdk,zee,zef,zeg,zeh,zei,zej,zek,zel,zem,zen,zeo,zep,zeq,zer,zes,zet,zeu,zev,zew,zex,zey,ya,yb,yc,yd,ye,yf,ts_int,ts_int64,ts_bool,ts_ints,ts_post,ts_posts,yg,yh,yi,yj,yk,yl,ym,ts_intsl,ts_int64s,ts_bools,ts_side,ts_sideb,ts_pints,ts_pbool,aPure,aLen,e8]) ts_int (Nat.le_refl _) rfl fun C2 hm2 hF2 hB2 => ?_
            replace hB2 : Box C2 b8 3 [.int .i64 ((j + 1 : Nat) : Int)] := hB2
            simp only [zaa,zab,zac,zad,zae,zaf,zag,zah,zai,zaj,zak,zal,zam,zan,zao,zap,zaq,zar,zas,zat,zau,zav,zaw,zax,zay,zaz,zba,aUn,zbb,zbc,zbd,zbe,zbf,zbg,zbh,zbi,zbj,zbk,zbl,zbm,zbn,flat,simple,zbo,zbp,zbq,zbr,zbs,zbt,zbu,zbv,zbw,zbx,zby,zbz,zca,zcb,zcc,zcd,zce,zcf,zcg,zch,zci,zcj,zck,zcl,zcm,zcn,zco,zcp,zcq,zcr,Nat.reduceEqDiff,Nat.reduceLT,Nat.reduceAdd,Nat.reduceSub,reduceIte,Kt_P,zcs,zct,zcu,zcv,zcw,zcx,zcy,zcz,zda,zdb,zdc,zdd,zde,zdf,zdg,zdh,zdi,zdj,zdk,reduceCtorEq,zdl,zdm,zdn,goInt,zdo,zdp,zdq,zdr,zds,zdt,zdu,zdv,zdw,zdx,zdy,zdz,zea,zeb,zec,zed,zdk,zee,zef,zeg,zeh,zei,zej,zek,zel,zem,zen,zeo,zep,zeq,zer,zes,zet,zeu,zev,zew,zex,zey,ya,yb,yc,yd,ye,yf,ts_int,ts_int64,ts_bool,ts_ints,ts_post,ts_posts,yg,yh,yi,yj,yk,yl,ym,ts_intsl,ts_int64s,ts_bools,ts_side,ts_sideb,ts_pints,ts_pbool,aPure,aLen]
            have nb : ∀ b, Wo' b → b ≠ b8 := fun b hb h => (c7' b hb).2.elim (fun h1 => by have := hn b h1; omega) fun h1 => by omega
            exact ⟨bs.length - (j + 1), by omega, j + 1, cnt + 1, Wo', by simp [put_at, e3, e4, e5, e8], rfl, by omega, by omega, hrest, hR.stab _ _ _ _ hI' (hF2.keep fun b _ h => ⟨by omega, fun h1 => nb b h1 h⟩),
              hB2, c6''.fr HP hF2 ⟨by omega, by omega, by omega⟩, fun b hb => ⟨by have := (c7' b hb).1; omega, (c7' b hb).2⟩, hFr.trans hF2 fun b hb h => by omega⟩
          · simp only [zaa,zab,zac,zad,zae,zaf,zag,zah,zai,zaj,zak,zal,zam,zan,zao,zap,zaq,zar,zas,zat,zau,zav,zaw,zax,zay,zaz,zba,aUn,zbb,zbc,zbd,zbe,zbf,zbg,zbh,zbi,zbj,zbk,zbl,zbm,zbn,flat,simple,zbo,zbp,zbq,zbr,zbs,zbt,zbu,zbv,zbw,zbx,zby,zbz,zca,zcb,zcc,zcd,zce,zcf,zcg,zch,zci,zcj,zck,zcl,zcm,zcn,zco,zcp,zcq,zcr,Nat.reduceEqDiff,Nat.reduceLT,Nat.reduceAdd,Nat.reduceSub,reduceIte,Kt_P,zcs,zct,zcu,zcv,zcw,zcx,zcy,zcz,zda,zdb,zdc,zdd,zde,zdf,zdg,zdh,zdi,zdj,zdk,reduceCtorEq,zdl,zdm,zdn,goInt,zdo,zdp,zdq,zdr,zds,zdt,zdu,zdv,zdw,zdx,zdy,zdz,zea,zeb,zec,zed,zdk,zee,zef,zeg,zeh,zei,zej,zek,zel,zem,zen,zeo,zep,zeq,zer,zes,zet,zeu,zev,zew,zex,zey,ya,yb,yc,yd,ye,yf,ts_int,ts_int64,ts_bool,ts_ints,ts_post,ts_posts,yg,yh,yi,yj,yk,yl,ym,ts_intsl,ts_int64s,ts_bools,ts_side,ts_sideb,ts_pints,ts_pbool,aPure,aLen]
            exact hQ _ _ Wo' hFr (fun b hb => ⟨(c7' b hb).1, (c7' b hb).2.imp id fun h => by omega⟩) (.inr hS')
      · simp only [zaa,zab,zac,zad,zae,zaf,zag,zah,zai,zaj,zak,zal,zam,zan,zao,zap,zaq,zar,zas,zat,zau,zav,zaw,zax,zay,zaz,zba,aUn,zbb,zbc,zbd,zbe,zbf,zbg,zbh,zbi,zbj,zbk,zbl,zbm,zbn,flat,simple,zbo,zbp,zbq,zbr,zbs,zbt,zbu,zbv,zbw,zbx,zby,zbz,zca,zcb,zcc,zcd,zce,zcf,zcg,zch,zci,zcj,zck,zcl,zcm,zcn,zco,zcp,zcq,zcr,Nat.reduceEqDiff,Nat.reduceLT,Nat.reduceAdd,Nat.reduceSub,reduceIte,Kt_P,zcs,zct,zcu,zcv,zcw,zcx,zcy,zcz,zda,zdb,zdc,zdd,zde,zdf,zdg,zdh,zdi,zdj,zdk,reduceCtorEq,zdl,zdm,zdn,goInt,zdo,zdp,zdq,zdr,zds,zdt,zdu,zdv,zdw,zdx,zdy,zdz,zea,zeb,zec,zed,zdk,zee,zef,zeg,zeh,zei,zej,zek,zel,zem,zen,zeo,zep,zeq,zer,zes,zet,zeu,zev,zew,zex,zey,ya,yb,yc,yd,ye,yf,ts_int,ts_int64,ts_bool,ts_ints,ts_post,ts_posts,yg,yh,yi,yj,yk,yl,ym,ts_intsl,ts_int64s,ts_bools,ts_side,ts_sideb,ts_pints,ts_pbool,aPure,aLen]
        have hnil : bs.drop j = [] := List.drop_of_length_le (by omega)
        rw [hnil, mrg_nil] at c3
        have : (mrg xs bs).length ≤ cnt := List.drop_eq_nil_iff.1 c3
        have hc : cnt = (mrg xs bs).length := by omega
        subst hc
        exact hQ _ _ Wo cF (fun b hb => ⟨(c7 b hb).1, (c7 b hb).2.imp id fun h => by omega⟩) (.inl c4)
    · rintro x W D hx hlt2 hF2 hWD ⟨rfl, Wo, g1, g2⟩
      simp only [zaa,zab,zac,zad,zae,zaf,zag,zah,zai,zaj,zak,zal,zam,zan,zao,zap,zaq,zar,zas,zat,zau,zav,zaw,zax,zay,zaz,zba,aUn,zbb,zbc,zbd,zbe,zbf,zbg,zbh,zbi,zbj,zbk,zbl,zbm,zbn,flat,simple,zbo,zbp,zbq,zbr,zbs,zbt,zbu,zbv,zbw,zbx,zby,zbz,zca,zcb,zcc,zcd,zce,zcf,zcg,zch,zci,zcj,zck,zcl,zcm,zcn,zco,zcp,zcq,zcr,Nat.reduceEqDiff,Nat.reduceLT,Nat.reduceAdd,Nat.reduceSub,reduceIte,Kt_P,zcs,zct,zcu,zcv,zcw,zcx,zcy,zcz,zda,zdb,zdc,zdd,zde,zdf,zdg,zdh,zdi,zdj,zdk,reduceCtorEq,zdl,zdm,zdn,goInt,zdo,zdp,zdq,zdr,zds,zdt,zdu,zdv,zdw,zdx,zdy,zdz,zea,zeb,zec,zed,zdk,zee,zef,zeg,zeh,zei,zej,zek,zel,zem,zen,zeo,zep,zeq,zer,zes,zet,zeu,zev,zew,zex,zey,ya,yb,yc,yd,ye,yf,ts_int,ts_int64,ts_bool,ts_ints,ts_post,ts_posts,yg,yh,yi,yj,yk,yl,ym,ts_intsl,ts_int64s,ts_bools,ts_side,ts_sideb,ts_pints,ts_pbool,aPure,aLen]
      refine hQ _ _ Wo ?_ (fun b hb => ⟨(g2 b hb).2.1, (g2 b hb).2.2.imp id fun h => by omega⟩) (.inr g1)
      exact Fr.trans hAD.fr hF2 fun b hb hc => hc.resolve_right (by omega)
theorem togb1_it (A : AHeap) (ba bb : Nat) (fva fvb : Value) (xs bs : List (Int × Unit)) (Rda Rdb : Nat → Prop) (hba : Box A ba 227 [fva]) (hbb : Box A bb 227 [fvb])
    (ia : ItV Kt A fva xs.length (RKV PTrue xs) Rda) (ib : ItV Kt A fvb bs.length (RKV PTrue bs) Rdb) (hN : bs.length ≤ 1000000) :
    ItV Kt A (.func (.func 117) #[] #[.pointer (some ⟨bb, 0, none⟩), .pointer (some ⟨ba, 0, none⟩)]) (mrg xs bs).length (RSide PTrue (mrg xs bs)) (fun b => b = ba ∨ b = bb ∨ Rda b ∨ Rdb b) := by
  refine ⟨?_, _, _, _, rfl, fun A1 hk lp I S W1 Q hR hI hW hQ => ?_⟩
  · rintro b (rfl | rfl | h | h)
    · exact hba.1
    · exact hbb.1
    · exact ia.1 b h
    · exact ib.1 b h
  replace hba := hk.box hba (.inl rfl)
  replace hbb := hk.box hbb (.inr (.inl rfl))
  replace ia := ia.kr hk fun b hb => .inr (.inr (.inl hb))
  replace ib := ib.kr hk fun b hb => .inr (.inr (.inr hb))
  refine Cal_of (nt := 92) (rs := []) fn_togb1 rfl rfl rfl (Nat.le_of_ble_eq_true rfl) ?_
  simp only [zaa,zab,zac,zad,zae,zaf,zag,zah,zai,zaj,zak,zal,zam,zan,zao,zap,zaq,zar,zas,zat,zau,zav,zaw,zax,zay,zaz,zba,aUn,zbb,zbc,zbd,zbe,zbf,zbg,zbh,zbi,zbj,zbk,zbl,zbm,zbn,flat,simple,zbo,zbp,zbq,zbr,zbs,zbt,zbu,zbv,zbw,zbx,zby,zbz,zca,zcb,zcc,zcd,zce,zcf,zcg,zch,zci,zcj,zck,zcl,zcm,zcn,zco,zcp,zcq,zcr,Nat.reduceEqDiff,Nat.reduceLT,Nat.reduceAdd,Nat.reduceSub,reduceIte,Kt_P,zcs,zct,zcu,zcv,zcw,zcx,zcy,zcz,zda,zdb,zdc,zdd,zde,zdf,zdg,zdh,zdi,zdj,zdk,reduceCtorEq,zdl,zdm,zdn,goInt,zdo,zdp,zdq,zdr,zds,zdt,zdu,zdv,zdw,zdx,zdy,zdz,zea,zeb,zec,zed,zdk,zee,zef,zeg,zeh,zei,zej,zek,zel,zem,zen,zeo,zep,zeq,zer,zes,zet,zeu,zev,zew,zex,zey,ya,yb,yc,yd,ye,yf,ts_int,ts_int64,ts_bool,ts_ints,ts_post,ts_posts,yg,yh,yi,yj,yk,yl,ym,ts_intsl,ts_int64s,ts_bools,ts_side,ts_sideb,ts_pints,ts_pbool,aPure,aLen]
  refine OpW_box_of ts_ysideb rfl fun b3 B3 hb3 hn3 hE3 hB3 => ?_
  simp only [zaa,zab,zac,zad,zae,zaf,zag,zah,zai,zaj,zak,zal,zam,zan,zao,zap,zaq,zar,zas,zat,zau,zav,zaw,zax,zay,zaz,zba,aUn,zbb,zbc,zbd,zbe,zbf,zbg,zbh,zbi,zbj,zbk,zbl,zbm,zbn,flat,simple,zbo,zbp,zbq,zbr,zbs,zbt,zbu,zbv,zbw,zbx,zby,zbz,zca,zcb,zcc,zcd,zce,zcf,zcg,zch,zci,zcj,zck,zcl,zcm,zcn,zco,zcp,zcq,zcr,Nat.reduceEqDiff,Nat.reduceLT,Nat.reduceAdd,Nat.reduceSub,reduceIte,Kt_P,zcs,zct,zcu,zcv,zcw,zcx,zcy,zcz,zda,zdb,zdc,zdd,zde,zdf,zdg,zdh,zdi,zdj,zdk,reduceCtorEq,zdl,zdm,zdn,goInt,zdo,zdp,zdq,zdr,zds,zdt,zdu,zdv,zdw,zdx,zdy,zdz,zea,zeb,zec,zed,zdk,zee,zef,zeg,zeh,zei,zej,zek,zel,zem,zen,zeo,zep,zeq,zer,zes,zet,zeu,zev,zew,zex,zey,ya,yb,yc,yd,ye,yf,ts_int,ts_int64,ts_bool,ts_ints,ts_post,ts_posts,yg,yh,yi,yj,yk,yl,ym,ts_intsl,ts_int64s,ts_bools,ts_side,ts_sideb,ts_pints,ts_pbool,aPure,aLen] at hB3 ⊢
  refine OpW_alloc_of ts_ints tz_ints rfl fun b4 B4 hb4 hn4 hE4 hB4 => ?_
  simp only [zaa,zab,zac,zad,zae,zaf,zag,zah,zai,zaj,zak,zal,zam,zan,zao,zap,zaq,zar,zas,zat,zau,zav,zaw,zax,zay,zaz,zba,aUn,zbb,zbc,zbd,zbe,zbf,zbg,zbh,zbi,zbj,zbk,zbl,zbm,zbn,flat,simple,zbo,zbp,zbq,zbr,zbs,zbt,zbu,zbv,zbw,zbx,zby,zbz,zca,zcb,zcc,zcd,zce,zcf,zcg,zch,zci,zcj,zck,zcl,zcm,zcn,zco,zcp,zcq,zcr,Nat.reduceEqDiff,Nat.reduceLT,Nat.reduceAdd,Nat.reduceSub,reduceIte,Kt_P,zcs,zct,zcu,zcv,zcw,zcx,zcy,zcz,zda,zdb,zdc,zdd,zde,zdf,zdg,zdh,zdi,zdj,zdk,reduceCtorEq,zdl,zdm,zdn,goInt,zdo,zdp,zdq,zdr,zds,zdt,zdu,zdv,zdw,zdx,zdy,zdz,zea,zeb,zec,zed,zdk,zee,zef,zeg,zeh,zei,zej,zek,zel,zem,zen,zeo,zep,zeq,zer,zes,zet,zeu,zev,zew,zex,zey,ya,yb,yc,yd,ye,yf,ts_int,ts_int64,ts_bool,ts_ints,ts_post,ts_posts,yg,yh,yi,yj,yk,yl,ym,ts_intsl,ts_int64s,ts_bools,ts_side,ts_sideb,ts_pints,ts_pbool,aPure,aLen]
  refine OpW_alloc_of ts_bools tz_bools rfl fun b5 B5 hb5 hn5 hE5 hB5 => ?_
  have hE15 : Ext A1 B5 := (hE3.trans hE4).trans hE5
  have hlb := (hE15.box hbb fun h => h).load (P := Tryz.prog) (o := 0) (t := 227) Tryz.underlying227 rfl rfl
  simp only [zaa,zab,zac,zad,zae,zaf,zag,zah,zai,zaj,zak,zal,zam,zan,zao,zap,zaq,zar,zas,zat,zau,zav,zaw,zax,zay,zaz,zba,aUn,zbb,zbc,zbd,zbe,zbf,zbg,zbh,zbi,zbj,zbk,zbl,zbm,zbn,flat,simple,zbo,zbp,zbq,zbr,zbs,zbt,zbu,zbv,zbw,zbx,zby,zbz,zca,zcb,zcc,zcd,zce,zcf,zcg,zch,zci,zcj,zck,zcl,zcm,zcn,zco,zcp,zcq,zcr,Nat.reduceEqDiff,Nat.reduceLT,Nat.reduceAdd,Nat.reduceSub,reduceIte,Kt_P,zcs,zct,zcu,zcv,zcw,zcx,zcy,zcz,zda,zdb,zdc,zdd,zde,zdf,zdg,zdh,zdi,zdj,zdk,reduceCtorEq,zdl,zdm,zdn,goInt,zdo,zdp,zdq,zdr,zds,zdt,zdu,zdv,zdw,zdx,zdy,zdz,zea,zeb,zec,zed,zdk,zee,zef,zeg,zeh,zei,zej,zek,zel,zem,zen,zeo,zep,zeq,zer,zes,zet,zeu,zev,zew,zex,zey,ya,yb,yc,yd,ye,yf,ts_int,ts_int64,ts_bool,ts_ints,ts_post,ts_posts,yg,yh,yi,yj,yk,yl,ym,ts_intsl,ts_int64s,ts_bools,ts_side,ts_sideb,ts_pints,ts_pbool,aPure,aLen,hlb]
  have hb3' := hE5.box (hE4.box hB3 fun h => h) fun h => h
  have hb4' := hE5.box hB4 fun h => h
  have hI5 := hR.stab _ _ _ _ hI (hE15.keep (base := A1.next) fun _ _ h => h.elim)
  have hit := ib.fr hE15 fun b _ h => h
  -- the second row is gathered
  refine range_of rfl hit (by simp only [zaa,zab,zac,zad,zae,zaf,zag,zah,zai,zaj,zak,zal,zam,zan,zao,zap,zaq,zar,zas,zat,zau,zav,zaw,zax,zay,zaz,zba,aUn,zbb,zbc,zbd,zbe,zbf,zbg,zbh,zbi,zbj,zbk,zbl,zbm,zbn,flat,simple,zbo,zbp,zbq,zbr,zbs,zbt,zbu,zbv,zbw,zbx,zby,zbz,zca,zcb,zcc,zcd,zce,zcf,zcg,zch,zci,zcj,zck,zcl,zcm,zcn,zco,zcp,zcq,zcr,Nat.reduceEqDiff,Nat.reduceLT,Nat.reduceAdd,Nat.reduceSub,reduceIte,Kt_P,zcs,zct,zcu,zcv,zcw,zcx,zcy,zcz,zda,zdb,zdc,zdd,zde,zdf,zdg,zdh,zdi,zdj,zdk,reduceCtorEq,zdl,zdm,zdn,goInt,zdo,zdp,zdq,zdr,zds,zdt,zdu,zdv,zdw,zdx,zdy,zdz,zea,zeb,zec,zed,zdk,zee,zef,zeg,zeh,zei,zej,zek,zel,zem,zen,zeo,zep,zeq,zer,zes,zet,zeu,zev,zew,zex,zey,ya,yb,yc,yd,ye,yf,ts_int,ts_int64,ts_bool,ts_ints,ts_post,ts_posts,yg,yh,yi,yj,yk,yl,ym,ts_intsl,ts_int64s,ts_bools,ts_side,ts_sideb,ts_pints,ts_pbool,aPure,aLen]) (fun i W B => ∃ kv hv vs, Box B b3 236 [.func (.yield lp) #[] #[]] ∧ Box B b4 59 [kv] ∧ Box B b5 237 [hv] ∧ Acc B 3 1 kv i (ints ((bs.take i).map (·.1))) ∧ Acc B 4 1 hv i vs ∧
      (∀ (j : Nat) (h : j < i) (h' : j < bs.length) (h'' : j < vs.length), PTrue B vs[j] bs[j].2) ∧ (∀ b, blockOf kv b → W b ∧ B5.next < b) ∧ (∀ b, blockOf hv b → W b ∧ B5.next < b) ∧ (∀ b, blockOf kv b → ¬ blockOf hv b) ∧ W b4 ∧ W b5 ∧ I 0 W1 B)
    (fun _ _ _ => False) (fun b => b = b4 ∨ b = b5) ?_ ?_ ?_ (fun _ _ _ _ h _ => h) ?_ ?_ (fun _ _ _ _ _ _ _ h => h.elim)
  · intro B hE
    exact ⟨_, _, [], hE.box hb3' fun h => h, hE.box hb4' fun h => h, hE.box hB5 fun h => h, ⟨by simp [ints], .inl ⟨rfl, rfl⟩⟩, ⟨rfl, .inl ⟨rfl, rfl⟩⟩, fun j h => by omega, fun b h => h.elim, fun b h => h.elim, fun b h => h.elim, .inl rfl, .inr rfl,
      hR.stab _ _ _ _ hI5 (hE.keep fun _ _ h => h.elim)⟩
  · rintro b (rfl | rfl)
    · exact ⟨by omega, fun h => by have := ib.1 _ h; omega⟩
    · exact ⟨by omega, fun h => by have := ib.1 _ h; omega⟩
  · rintro i W B B' ⟨kv, hv, vs, k3, k4, k5, k6, k7, k8, k9, k10, k11, k12, k13, k14⟩ hK
    refine ⟨kv, hv, vs, hK.box k3 (.inl (by omega)), hK.box k4 (.inl (by omega)), hK.box k5 (.inl (by omega)), hK.acc k6 fun b h => .inr (k9 b h).1, hK.acc k7 fun b h => .inr (k10 b h).1, fun j h h' h'' => PTrue_dk _ _ _ _ hK.dat (k8 j h h' h''), k9, k10, k11, k12, k13, ?_⟩
    exact hR.stab _ _ _ _ k14 (hK.low (by omega) fun b hb => .inl (by have := (hW b hb).1; omega))
  · rintro i W B ys hi ⟨kv, hv, vs, k3, k4, k5, k6, k7, k8, k9, k10, k11, k12, k13, k14⟩ hlt hWB ⟨hib, u, rfl, hu⟩ _
    refine ⟨rfl, _, rfl, ?_⟩
    simp only [zaa,zab,zac,zad,zae,zaf,zag,zah,zai,zaj,zak,zal,zam,zan,zao,zap,zaq,zar,zas,zat,zau,zav,zaw,zax,zay,zaz,zba,aUn,zbb,zbc,zbd,zbe,zbf,zbg,zbh,zbi,zbj,zbk,zbl,zbm,zbn,flat,simple,zbo,zbp,zbq,zbr,zbs,zbt,zbu,zbv,zbw,zbx,zby,zbz,zca,zcb,zcc,zcd,zce,zcf,zcg,zch,zci,zcj,zck,zcl,zcm,zcn,zco,zcp,zcq,zcr,Nat.reduceEqDiff,Nat.reduceLT,Nat.reduceAdd,Nat.reduceSub,reduceIte,Kt_P,zcs,zct,zcu,zcv,zcw,zcx,zcy,zcz,zda,zdb,zdc,zdd,zde,zdf,zdg,zdh,zdi,zdj,zdk,reduceCtorEq,zdl,zdm,zdn,goInt,zdo,zdp,zdq,zdr,zds,zdt,zdu,zdv,zdw,zdx,zdy,zdz,zea,zeb,zec,zed,zdk,zee,zef,zeg,zeh,zei,zej,zek,zel,zem,zen,zeo,zep,zeq,zer,zes,zet,zeu,zev,zew,zex,zey,ya,yb,yc,yd,ye,yf,ts_int,ts_int64,ts_bool,ts_ints,ts_post,ts_posts,yg,yh,yi,yj,yk,yl,ym,ts_intsl,ts_int64s,ts_bools,ts_side,ts_sideb,ts_pints,ts_pbool,aPure,aLen]
    refine ⟨Fr.refl _ _, fun C hCn hCF => ?_⟩
    have hu' := hu; cases (hu : _ = _)
    replace k3 := hCF.box k3 (by omega)
    replace k4 := hCF.box k4 (by omega)
    replace k5 := hCF.box k5 (by omega)
    replace k6 := k6.fr hCF fun b h => (hWB b (k9 b h).1).2.2.1
    replace k7 := k7.fr hCF fun b h => (hWB b (k10 b h).1).2.2.1
    replace k8 := fun j h h' h'' => PTrue_dk _ _ _ _ hCF.dat (k8 j h h' h'')
    replace k14 := hR.stab _ _ _ _ k14 (hCF.keep fun b _ hb => ⟨by omega, fun h => by have := (hW b h).1; omega⟩)
    have l4 := k4.load (P := Tryz.prog) (o := 0) (t := 59) Tryz.underlying59 rfl rfl
    simp only [zaa,zab,zac,zad,zae,zaf,zag,zah,zai,zaj,zak,zal,zam,zan,zao,zap,zaq,zar,zas,zat,zau,zav,zaw,zax,zay,zaz,zba,aUn,zbb,zbc,zbd,zbe,zbf,zbg,zbh,zbi,zbj,zbk,zbl,zbm,zbn,flat,simple,zbo,zbp,zbq,zbr,zbs,zbt,zbu,zbv,zbw,zbx,zby,zbz,zca,zcb,zcc,zcd,zce,zcf,zcg,zch,zci,zcj,zck,zcl,zcm,zcn,zco,zcp,zcq,zcr,Nat.reduceEqDiff,Nat.reduceLT,Nat.reduceAdd,Nat.reduceSub,reduceIte,Kt_P,zcs,zct,zcu,zcv,zcw,zcx,zcy,zcz,zda,zdb,zdc,zdd,zde,zdf,zdg,zdh,zdi,zdj,zdk,reduceCtorEq,zdl,zdm,zdn,goInt,zdo,zdp,zdq,zdr,zds,zdt,zdu,zdv,zdw,zdx,zdy,zdz,zea,zeb,zec,zed,zdk,zee,zef,zeg,zeh,zei,zej,zek,zel,zem,zen,zeo,zep,zeq,zer,zes,zet,zeu,zev,zew,zex,zey,ya,yb,yc,yd,ye,yf,ts_int,ts_int64,ts_bool,ts_ints,ts_post,ts_posts,yg,yh,yi,yj,yk,yl,ym,ts_intsl,ts_int64s,ts_bools,ts_side,ts_sideb,ts_pints,ts_pbool,aPure,aLen,l4]
    refine OpW_buildSlice_of (cs := [.int .i64 bs[i].1]) Tryz.underlying59 ts_int tz_int (by decide) rfl rfl rfl fun q1 C1 hq1 hm1 hF1 hQ1 => ?_
    simp only [zaa,zab,zac,zad,zae,zaf,zag,zah,zai,zaj,zak,zal,zam,zan,zao,zap,zaq,zar,zas,zat,zau,zav,zaw,zax,zay,zaz,zba,aUn,zbb,zbc,zbd,zbe,zbf,zbg,zbh,zbi,zbj,zbk,zbl,zbm,zbn,flat,simple,zbo,zbp,zbq,zbr,zbs,zbt,zbu,zbv,zbw,zbx,zby,zbz,zca,zcb,zcc,zcd,zce,zcf,zcg,zch,zci,zcj,zck,zcl,zcm,zcn,zco,zcp,zcq,zcr,Nat.reduceEqDiff,Nat.reduceLT,Nat.reduceAdd,Nat.reduceSub,reduceIte,Kt_P,zcs,zct,zcu,zcv,zcw,zcx,zcy,zcz,zda,zdb,zdc,zdd,zde,zdf,zdg,zdh,zdi,zdj,zdk,reduceCtorEq,zdl,zdm,zdn,goInt,zdo,zdp,zdq,zdr,zds,zdt,zdu,zdv,zdw,zdx,zdy,zdz,zea,zeb,zec,zed,zdk,zee,zef,zeg,zeh,zei,zej,zek,zel,zem,zen,zeo,zep,zeq,zer,zes,zet,zeu,zev,zew,zex,zey,ya,yb,yc,yd,ye,yf,ts_int,ts_int64,ts_bool,ts_ints,ts_post,ts_posts,yg,yh,yi,yj,yk,yl,ym,ts_intsl,ts_int64s,ts_bools,ts_side,ts_sideb,ts_pints,ts_pbool,aPure,aLen]
    refine OpW_append_of (n := i) (k := 1) ⟨rfl, rfl⟩ Tryz.underlying59 (by rw [Kt_P, Tryz.underlying59]; rfl) ts_int tb_int tz_int (by simp only [zaa,zab,zac,zad,zae,zaf,zag,zah,zai,zaj,zak,zal,zam,zan,zao,zap,zaq,zar,zas,zat,zau,zav,zaw,zax,zay,zaz,zba,aUn,zbb,zbc,zbd,zbe,zbf,zbg,zbh,zbi,zbj,zbk,zbl,zbm,zbn,flat,simple,zbo,zbp,zbq,zbr,zbs,zbt,zbu,zbv,zbw,zbx,zby,zbz,zca,zcb,zcc,zcd,zce,zcf,zcg,zch,zci,zcj,zck,zcl,zcm,zcn,zco,zcp,zcq,zcr,Nat.reduceEqDiff,Nat.reduceLT,Nat.reduceAdd,Nat.reduceSub,reduceIte,Kt_P,zcs,zct,zcu,zcv,zcw,zcx,zcy,zcz,zda,zdb,zdc,zdd,zde,zdf,zdg,zdh,zdi,zdj,zdk,reduceCtorEq,zdl,zdm,zdn,goInt,zdo,zdp,zdq,zdr,zds,zdt,zdu,zdv,zdw,zdx,zdy,zdz,zea,zeb,zec,zed,zdk,zee,zef,zeg,zeh,zei,zej,zek,zel,zem,zen,zeo,zep,zeq,zer,zes,zet,zeu,zev,zew,zex,zey,ya,yb,yc,yd,ye,yf,ts_int,ts_int64,ts_bool,ts_ints,ts_post,ts_posts,yg,yh,yi,yj,yk,yl,ym,ts_intsl,ts_int64s,ts_bools,ts_side,ts_sideb,ts_pints,ts_pbool,aPure,aLen]; exact aSrc_box hQ1 rfl) ⟨rfl, rfl⟩ (by omega) ⟨by omega, rfl, by omega, by omega⟩
      (k6.fr hF1 fun _ _ h => h) fun q2 C2 hq2 hm2 hF2 hA2 => ?_
    simp only [zaa,zab,zac,zad,zae,zaf,zag,zah,zai,zaj,zak,zal,zam,zan,zao,zap,zaq,zar,zas,zat,zau,zav,zaw,zax,zay,zaz,zba,aUn,zbb,zbc,zbd,zbe,zbf,zbg,zbh,zbi,zbj,zbk,zbl,zbm,zbn,flat,simple,zbo,zbp,zbq,zbr,zbs,zbt,zbu,zbv,zbw,zbx,zby,zbz,zca,zcb,zcc,zcd,zce,zcf,zcg,zch,zci,zcj,zck,zcl,zcm,zcn,zco,zcp,zcq,zcr,Nat.reduceEqDiff,Nat.reduceLT,Nat.reduceAdd,Nat.reduceSub,reduceIte,Kt_P,zcs,zct,zcu,zcv,zcw,zcx,zcy,zcz,zda,zdb,zdc,zdd,zde,zdf,zdg,zdh,zdi,zdj,zdk,reduceCtorEq,zdl,zdm,zdn,goInt,zdo,zdp,zdq,zdr,zds,zdt,zdu,zdv,zdw,zdx,zdy,zdz,zea,zeb,zec,zed,zdk,zee,zef,zeg,zeh,zei,zej,zek,zel,zem,zen,zeo,zep,zeq,zer,zes,zet,zeu,zev,zew,zex,zey,ya,yb,yc,yd,ye,yf,ts_int,ts_int64,ts_bool,ts_ints,ts_post,ts_posts,yg,yh,yi,yj,yk,yl,ym,ts_intsl,ts_int64s,ts_bools,ts_side,ts_sideb,ts_pints,ts_pbool,aPure,aLen] at hF2 hA2 ⊢
    have nk : ∀ b, b ≤ B5.next → ¬ blockOf kv b := fun b hb h => by have := (k9 b h).2; omega
    have nh : ∀ b, b ≤ B5.next → ¬ blockOf hv b := fun b hb h => by have := (k10 b h).2; omega
    have k4' := hF2.box (hF1.box k4 fun h => h) (nk b4 (by omega))
    refine OpW_store_of k4' ⟨rfl, rfl⟩ rfl ts_ints (Nat.le_refl _) rfl fun C3 hm3 hF3 hB6 => ?_
    replace hB6 : Box C3 b4 59 [.slice (some ⟨q2, 0, none⟩) (i + 1) (i + 1)] := hB6
    have k5' := hF3.box (hF2.box (hF1.box k5 fun h => h) (nk b5 (by omega))) (by omega)
    have k3' := hF3.box (hF2.box (hF1.box k3 fun h => h) (nk b3 (by omega))) (by omega)
    have k7' := ((k7.fr hF1 fun _ _ h => h).fr hF2 fun b h hc => k11 b hc h).fr hF3 fun b h hc => by subst hc; exact nh b (by omega) h
    have l5 := k5'.load (P := Tryz.prog) (o := 0) (t := 237) Tryz.underlying237 rfl rfl
    simp only [zaa,zab,zac,zad,zae,zaf,zag,zah,zai,zaj,zak,zal,zam,zan,zao,zap,zaq,zar,zas,zat,zau,zav,zaw,zax,zay,zaz,zba,aUn,zbb,zbc,zbd,zbe,zbf,zbg,zbh,zbi,zbj,zbk,zbl,zbm,zbn,flat,simple,zbo,zbp,zbq,zbr,zbs,zbt,zbu,zbv,zbw,zbx,zby,zbz,zca,zcb,zcc,zcd,zce,zcf,zcg,zch,zci,zcj,zck,zcl,zcm,zcn,zco,zcp,zcq,zcr,Nat.reduceEqDiff,Nat.reduceLT,Nat.reduceAdd,Nat.reduceSub,reduceIte,Kt_P,zcs,zct,zcu,zcv,zcw,zcx,zcy,zcz,zda,zdb,zdc,zdd,zde,zdf,zdg,zdh,zdi,zdj,zdk,reduceCtorEq,zdl,zdm,zdn,goInt,zdo,zdp,zdq,zdr,zds,zdt,zdu,zdv,zdw,zdx,zdy,zdz,zea,zeb,zec,zed,zdk,zee,zef,zeg,zeh,zei,zej,zek,zel,zem,zen,zeo,zep,zeq,zer,zes,zet,zeu,zev,zew,zex,zey,ya,yb,yc,yd,ye,yf,ts_int,ts_int64,ts_bool,ts_ints,ts_post,ts_posts,yg,yh,yi,yj,yk,yl,ym,ts_intsl,ts_int64s,ts_bools,ts_side,ts_sideb,ts_pints,ts_pbool,aPure,aLen,l5]
    refine OpW_buildSlice_of (cs := [(.bool true)]) Tryz.underlying237 ts_bool tz_bool (by decide) rfl rfl rfl fun q3 C4 hq3 hm4 hF4 hQ3 => ?_
    simp only [zaa,zab,zac,zad,zae,zaf,zag,zah,zai,zaj,zak,zal,zam,zan,zao,zap,zaq,zar,zas,zat,zau,zav,zaw,zax,zay,zaz,zba,aUn,zbb,zbc,zbd,zbe,zbf,zbg,zbh,zbi,zbj,zbk,zbl,zbm,zbn,flat,simple,zbo,zbp,zbq,zbr,zbs,zbt,zbu,zbv,zbw,zbx,zby,zbz,zca,zcb,zcc,zcd,zce,zcf,zcg,zch,zci,zcj,zck,zcl,zcm,zcn,zco,zcp,zcq,zcr,Nat.reduceEqDiff,Nat.reduceLT,Nat.reduceAdd,Nat.reduceSub,reduceIte,Kt_P,zcs,zct,zcu,zcv,zcw,zcx,zcy,zcz,zda,zdb,zdc,zdd,zde,zdf,zdg,zdh,zdi,zdj,zdk,reduceCtorEq,zdl,zdm,zdn,goInt,zdo,zdp,zdq,zdr,zds,zdt,zdu,zdv,zdw,zdx,zdy,zdz,zea,zeb,zec,zed,zdk,zee,zef,zeg,zeh,zei,zej,zek,zel,zem,zen,zeo,zep,zeq,zer,zes,zet,zeu,zev,zew,zex,zey,ya,yb,yc,yd,ye,yf,ts_int,ts_int64,ts_bool,ts_ints,ts_post,ts_posts,yg,yh,yi,yj,yk,yl,ym,ts_intsl,ts_int64s,ts_bools,ts_side,ts_sideb,ts_pints,ts_pbool,aPure,aLen]
    refine OpW_append_of (n := i) (k := 1) ⟨rfl, rfl⟩ Tryz.underlying237 (by rw [Kt_P, Tryz.underlying237]; rfl) ts_bool tb_bool tz_bool (by simp only [zaa,zab,zac,zad,zae,zaf,zag,zah,zai,zaj,zak,zal,zam,zan,zao,zap,zaq,zar,zas,zat,zau,zav,zaw,zax,zay,zaz,zba,aUn,zbb,zbc,zbd,zbe,zbf,zbg,zbh,zbi,zbj,zbk,zbl,zbm,zbn,flat,simple,zbo,zbp,zbq,zbr,zbs,zbt,zbu,zbv,zbw,zbx,zby,zbz,zca,zcb,zcc,zcd,zce,zcf,zcg,zch,zci,zcj,zck,zcl,zcm,zcn,zco,zcp,zcq,zcr,Nat.reduceEqDiff,Nat.reduceLT,Nat.reduceAdd,Nat.reduceSub,reduceIte,Kt_P,zcs,zct,zcu,zcv,zcw,zcx,zcy,zcz,zda,zdb,zdc,zdd,zde,zdf,zdg,zdh,zdi,zdj,zdk,reduceCtorEq,zdl,zdm,zdn,goInt,zdo,zdp,zdq,zdr,zds,zdt,zdu,zdv,zdw,zdx,zdy,zdz,zea,zeb,zec,zed,zdk,zee,zef,zeg,zeh,zei,zej,zek,zel,zem,zen,zeo,zep,zeq,zer,zes,zet,zeu,zev,zew,zex,zey,ya,yb,yc,yd,ye,yf,ts_int,ts_int64,ts_bool,ts_ints,ts_post,ts_posts,yg,yh,yi,yj,yk,yl,ym,ts_intsl,ts_int64s,ts_bools,ts_side,ts_sideb,ts_pints,ts_pbool,aPure,aLen]; exact aSrc_box hQ3 rfl) ⟨rfl, rfl⟩ (by omega) ⟨by omega, rfl, by omega, by omega⟩
      (k7'.fr hF4 fun _ _ h => h) fun q4 C5 hq4 hm5 hF5 hA5 => ?_
    simp only [zaa,zab,zac,zad,zae,zaf,zag,zah,zai,zaj,zak,zal,zam,zan,zao,zap,zaq,zar,zas,zat,zau,zav,zaw,zax,zay,zaz,zba,aUn,zbb,zbc,zbd,zbe,zbf,zbg,zbh,zbi,zbj,zbk,zbl,zbm,zbn,flat,simple,zbo,zbp,zbq,zbr,zbs,zbt,zbu,zbv,zbw,zbx,zby,zbz,zca,zcb,zcc,zcd,zce,zcf,zcg,zch,zci,zcj,zck,zcl,zcm,zcn,zco,zcp,zcq,zcr,Nat.reduceEqDiff,Nat.reduceLT,Nat.reduceAdd,Nat.reduceSub,reduceIte,Kt_P,zcs,zct,zcu,zcv,zcw,zcx,zcy,zcz,zda,zdb,zdc,zdd,zde,zdf,zdg,zdh,zdi,zdj,zdk,reduceCtorEq,zdl,zdm,zdn,goInt,zdo,zdp,zdq,zdr,zds,zdt,zdu,zdv,zdw,zdx,zdy,zdz,zea,zeb,zec,zed,zdk,zee,zef,zeg,zeh,zei,zej,zek,zel,zem,zen,zeo,zep,zeq,zer,zes,zet,zeu,zev,zew,zex,zey,ya,yb,yc,yd,ye,yf,ts_int,ts_int64,ts_bool,ts_ints,ts_post,ts_posts,yg,yh,yi,yj,yk,yl,ym,ts_intsl,ts_int64s,ts_bools,ts_side,ts_sideb,ts_pints,ts_pbool,aPure,aLen] at hF5 hA5 ⊢
    have k5'' := hF5.box (hF4.box k5' fun h => h) (nh b5 (by omega))
    refine OpW_store_of k5'' ⟨rfl, rfl⟩ rfl ts_bools (Nat.le_refl _) rfl fun C6 hm6 hF6 hB7 => ?_
    replace hB7 : Box C6 b5 237 [.slice (some ⟨q4, 0, none⟩) (i + 1) (i + 1)] := hB7
    simp only [zaa,zab,zac,zad,zae,zaf,zag,zah,zai,zaj,zak,zal,zam,zan,zao,zap,zaq,zar,zas,zat,zau,zav,zaw,zax,zay,zaz,zba,aUn,zbb,zbc,zbd,zbe,zbf,zbg,zbh,zbi,zbj,zbk,zbl,zbm,zbn,flat,simple,zbo,zbp,zbq,zbr,zbs,zbt,zbu,zbv,zbw,zbx,zby,zbz,zca,zcb,zcc,zcd,zce,zcf,zcg,zch,zci,zcj,zck,zcl,zcm,zcn,zco,zcp,zcq,zcr,Nat.reduceEqDiff,Nat.reduceLT,Nat.reduceAdd,Nat.reduceSub,reduceIte,Kt_P,zcs,zct,zcu,zcv,zcw,zcx,zcy,zcz,zda,zdb,zdc,zdd,zde,zdf,zdg,zdh,zdi,zdj,zdk,reduceCtorEq,zdl,zdm,zdn,goInt,zdo,zdp,zdq,zdr,zds,zdt,zdu,zdv,zdw,zdx,zdy,zdz,zea,zeb,zec,zed,zdk,zee,zef,zeg,zeh,zei,zej,zek,zel,zem,zen,zeo,zep,zeq,zer,zes,zet,zeu,zev,zew,zex,zey,ya,yb,yc,yd,ye,yf,ts_int,ts_int64,ts_bool,ts_ints,ts_post,ts_posts,yg,yh,yi,yj,yk,yl,ym,ts_intsl,ts_int64s,ts_bools,ts_side,ts_sideb,ts_pints,ts_pbool,aPure,aLen]
    have g1 : Fr (fun b => W b ∨ B.next ≤ b) C C3 := Fr.trans (Fr.trans (W' := blockOf kv) hF1.fr hF2 fun b _ h => .inl (k9 b h).1) hF3 fun b _ h => .inl (by rw [h]; exact k12)
    have g2 : Fr (fun b => W b ∨ B.next ≤ b) C3 C6 := Fr.trans (Fr.trans (W' := blockOf hv) hF4.fr hF5 fun b _ h => .inl (k10 b h).1) hF6 fun b _ h => .inl (by rw [h]; exact k13)
    have g := g1.trans g2 fun _ _ h => h
    refine ⟨g, fun _ => ⟨_, _, vs ++ [(.bool true)], hF6.box (hF5.box (hF4.box k3' fun h => h) (nh b3 (by omega))) (by omega), hF6.box (hF5.box (hF4.box hB6 fun h => h) (nh b4 (by omega))) (by omega), hB7, ?_, hA5.fr hF6 (fun b h => by simp only [blockOf] at h; omega), ?_, ?_, ?_, ?_, .inl k12, .inl k13, ?_⟩, fun h => by first | exact absurd rfl h | exact False.elim h⟩
    · have e1 : ints ((bs.take (i + 1)).map (·.1)) = ints ((bs.take i).map (·.1)) ++ [.int .i64 bs[i].1] := by
        rw [List.take_succ_eq_append_getElem hib]; simp only [ints,List.map_append,List.map_cons,List.map_nil]
      rw [e1]
      exact (((hA2.fr hF3 fun b h => by simp only [blockOf] at h; omega).fr hF4 fun _ _ h => h).fr hF5 fun b h hc => by simp only [blockOf] at h; have := (hWB b (k10 b hc).1).1; omega).fr hF6 fun b h => by simp only [blockOf] at h; omega
    · intro j h h' h''
      by_cases hj : j < i
      · have hv1 : j < vs.length := by have := k7.1; omega
        rw [List.getElem_append_left hv1]
        exact PTrue_dk _ _ _ _ g.dat (k8 j hj h' hv1)
      · have hje : j = i := by omega
        subst hje
        have hv1 : vs.length = j := by have := k7.1; omega
        rw [List.getElem_append_right (by omega)]
        simp only [List.getElem_singleton]
        exact PTrue_dk _ _ _ _ (fun b el cells hd => g.dat _ _ _ (hCF.dat _ _ _ hd)) hu'
    · intro b h
      simp only [blockOf] at h
      exact ⟨.inr (by omega), by omega⟩
    · intro b h
      simp only [blockOf] at h
      exact ⟨.inr (by omega), by omega⟩
    · intro b h h'
      simp only [blockOf] at h h'
      omega
    · exact hR.stab _ _ _ _ k14 (g.keep fun b _ h => ⟨h.elim (fun h => by have := (hWB b h).2.2.2; omega) (fun h => by omega), fun hw => by
        have := (hW b hw).1
        rcases h with h | h
        · have := (hWB b h).2.2.2; omega
        · omega⟩)
  · rintro W B hlt hF hWB ⟨kv, hv, vs, k3, k4, k5, k6, k7, k8, k9, k10, k11, k12, k13, k14⟩
    have hT : Tog PTrue 3 4 236 59 237 lp b3 b4 b5 bs B := ⟨kv, hv, vs, k3, k4, k5, by simpa using k6.elems, k7.elems, fun j h h' => k8 j h h h'⟩
    have hAB : Ext A1 B := Fr.trans hE15 hF fun b hb hc => by omega
    clear k3 k4 k5 k6 k7 k8 k9 k10 k11 k12 k13
    simp only [zaa,zab,zac,zad,zae,zaf,zag,zah,zai,zaj,zak,zal,zam,zan,zao,zap,zaq,zar,zas,zat,zau,zav,zaw,zax,zay,zaz,zba,aUn,zbb,zbc,zbd,zbe,zbf,zbg,zbh,zbi,zbj,zbk,zbl,zbm,zbn,flat,simple,zbo,zbp,zbq,zbr,zbs,zbt,zbu,zbv,zbw,zbx,zby,zbz,zca,zcb,zcc,zcd,zce,zcf,zcg,zch,zci,zcj,zck,zcl,zcm,zcn,zco,zcp,zcq,zcr,Nat.reduceEqDiff,Nat.reduceLT,Nat.reduceAdd,Nat.reduceSub,reduceIte,Kt_P,zcs,zct,zcu,zcv,zcw,zcx,zcy,zcz,zda,zdb,zdc,zdd,zde,zdf,zdg,zdh,zdi,zdj,zdk,reduceCtorEq,zdl,zdm,zdn,goInt,zdo,zdp,zdq,zdr,zds,zdt,zdu,zdv,zdw,zdx,zdy,zdz,zea,zeb,zec,zed,zdk,zee,zef,zeg,zeh,zei,zej,zek,zel,zem,zen,zeo,zep,zeq,zer,zes,zet,zeu,zev,zew,zex,zey,ya,yb,yc,yd,ye,yf,ts_int,ts_int64,ts_bool,ts_ints,ts_post,ts_posts,yg,yh,yi,yj,yk,yl,ym,ts_intsl,ts_int64s,ts_bools,ts_side,ts_sideb,ts_pints,ts_pbool,aPure,aLen]
    refine OpW_alloc_of ts_int tz_int rfl fun b8 D1 hb8 hm8 hE8 hB8 => ?_
    simp only [zaa,zab,zac,zad,zae,zaf,zag,zah,zai,zaj,zak,zal,zam,zan,zao,zap,zaq,zar,zas,zat,zau,zav,zaw,zax,zay,zaz,zba,aUn,zbb,zbc,zbd,zbe,zbf,zbg,zbh,zbi,zbj,zbk,zbl,zbm,zbn,flat,simple,zbo,zbp,zbq,zbr,zbs,zbt,zbu,zbv,zbw,zbx,zby,zbz,zca,zcb,zcc,zcd,zce,zcf,zcg,zch,zci,zcj,zck,zcl,zcm,zcn,zco,zcp,zcq,zcr,Nat.reduceEqDiff,Nat.reduceLT,Nat.reduceAdd,Nat.reduceSub,reduceIte,Kt_P,zcs,zct,zcu,zcv,zcw,zcx,zcy,zcz,zda,zdb,zdc,zdd,zde,zdf,zdg,zdh,zdi,zdj,zdk,reduceCtorEq,zdl,zdm,zdn,goInt,zdo,zdp,zdq,zdr,zds,zdt,zdu,zdv,zdw,zdx,zdy,zdz,zea,zeb,zec,zed,zdk,zee,zef,zeg,zeh,zei,zej,zek,zel,zem,zen,zeo,zep,zeq,zer,zes,zet,zeu,zev,zew,zex,zey,ya,yb,yc,yd,ye,yf,ts_int,ts_int64,ts_bool,ts_ints,ts_post,ts_posts,yg,yh,yi,yj,yk,yl,ym,ts_intsl,ts_int64s,ts_bools,ts_side,ts_sideb,ts_pints,ts_pbool,aPure,aLen]
    refine OpW_store_of hB8 ⟨rfl, rfl⟩ rfl ts_int (Nat.le_refl _) rfl fun D2 hm9 hF9 hB9 => ?_
    replace hB9 : Box D2 b8 3 [.int .i64 0] := hB9
    have hBD : Ext B D2 := Fr.trans hE8 hF9 fun b hb hc => by omega
    have hAD : Ext A1 D2 := hAB.trans hBD
    have hla := (hAD.box hba fun h => h).load (P := Tryz.prog) (o := 0) (t := 227) Tryz.underlying227 rfl rfl
    simp only [zaa,zab,zac,zad,zae,zaf,zag,zah,zai,zaj,zak,zal,zam,zan,zao,zap,zaq,zar,zas,zat,zau,zav,zaw,zax,zay,zaz,zba,aUn,zbb,zbc,zbd,zbe,zbf,zbg,zbh,zbi,zbj,zbk,zbl,zbm,zbn,flat,simple,zbo,zbp,zbq,zbr,zbs,zbt,zbu,zbv,zbw,zbx,zby,zbz,zca,zcb,zcc,zcd,zce,zcf,zcg,zch,zci,zcj,zck,zcl,zcm,zcn,zco,zcp,zcq,zcr,Nat.reduceEqDiff,Nat.reduceLT,Nat.reduceAdd,Nat.reduceSub,reduceIte,Kt_P,zcs,zct,zcu,zcv,zcw,zcx,zcy,zcz,zda,zdb,zdc,zdd,zde,zdf,zdg,zdh,zdi,zdj,zdk,reduceCtorEq,zdl,zdm,zdn,goInt,zdo,zdp,zdq,zdr,zds,zdt,zdu,zdv,zdw,zdx,zdy,zdz,zea,zeb,zec,zed,zdk,zee,zef,zeg,zeh,zei,zej,zek,zel,zem,zen,zeo,zep,zeq,zer,zes,zet,zeu,zev,zew,zex,zey,ya,yb,yc,yd,ye,yf,ts_int,ts_int64,ts_bool,ts_ints,ts_post,ts_posts,yg,yh,yi,yj,yk,yl,ym,ts_intsl,ts_int64s,ts_bools,ts_side,ts_sideb,ts_pints,ts_pbool,aPure,aLen,hla]
    have hT2 := hT.fr PTrue_dk hBD ⟨fun h => h, fun h => h, fun h => h⟩
    have hI2 := hR.stab _ _ _ _ k14 (hBD.keep (base := A1.next) fun _ _ h => h.elim)
    have hn : ∀ b, W1 b → b < A1.next := fun b hb => (hW b hb).1
    have hBn := hAB.next
    refine range_of rfl (ia.fr hAD fun b _ h => h) (by simp only [zaa,zab,zac,zad,zae,zaf,zag,zah,zai,zaj,zak,zal,zam,zan,zao,zap,zaq,zar,zas,zat,zau,zav,zaw,zax,zay,zaz,zba,aUn,zbb,zbc,zbd,zbe,zbf,zbg,zbh,zbi,zbj,zbk,zbl,zbm,zbn,flat,simple,zbo,zbp,zbq,zbr,zbs,zbt,zbu,zbv,zbw,zbx,zby,zbz,zca,zcb,zcc,zcd,zce,zcf,zcg,zch,zci,zcj,zck,zcl,zcm,zcn,zco,zcp,zcq,zcr,Nat.reduceEqDiff,Nat.reduceLT,Nat.reduceAdd,Nat.reduceSub,reduceIte,Kt_P,zcs,zct,zcu,zcv,zcw,zcx,zcy,zcz,zda,zdb,zdc,zdd,zde,zdf,zdg,zdh,zdi,zdj,zdk,reduceCtorEq,zdl,zdm,zdn,goInt,zdo,zdp,zdq,zdr,zds,zdt,zdu,zdv,zdw,zdx,zdy,zdz,zea,zeb,zec,zed,zdk,zee,zef,zeg,zeh,zei,zej,zek,zel,zem,zen,zeo,zep,zeq,zer,zes,zet,zeu,zev,zew,zex,zey,ya,yb,yc,yd,ye,yf,ts_int,ts_int64,ts_bool,ts_ints,ts_post,ts_posts,yg,yh,yi,yj,yk,yl,ym,ts_intsl,ts_int64s,ts_bools,ts_side,ts_sideb,ts_pints,ts_pbool,aPure,aLen])
      (fun i W D => ∃ (j cnt : Nat) (Wo : Nat → Prop), j ≤ bs.length ∧ cnt ≤ (mrg xs bs).length ∧ (mrg xs bs).drop cnt = mrg (xs.drop i) (bs.drop j) ∧ I cnt Wo D ∧ Box D b8 3 [.int .i64 j] ∧ Tog PTrue 3 4 236 59 237 lp b3 b4 b5 bs D ∧
        (∀ b, Wo b → W b ∧ b < D.next ∧ (W1 b ∨ b8 < b)) ∧ W b8)
      (fun x W D => x = .ret ∧ ∃ Wo, S Wo D ∧ ∀ b, Wo b → W b ∧ b < D.next ∧ (W1 b ∨ b8 < b)) (fun b => W1 b ∨ b = b8) ?_ ?_ ?_ ?_ ?_ ?_ ?_
    · intro D hE
      exact ⟨0, 0, W1, by omega, by omega, by simp, hR.stab _ _ _ _ hI2 (hE.keep fun _ _ h => h.elim), hE.box hB9 fun h => h, hT2.fr PTrue_dk hE ⟨fun h => h, fun h => h, fun h => h⟩, fun b hb => ⟨.inl hb, by have := hn b hb; have := hE.next; omega, .inl hb⟩, .inr rfl⟩
    · rintro b (hb | rfl)
      · exact ⟨by have := hn b hb; omega, fun h => (hW b hb).2 (.inr (.inr (.inl h)))⟩
      · exact ⟨by omega, fun h => by have := ia.1 _ h; omega⟩
    · rintro i W D D' ⟨j, cnt, Wo, g1, g2, g3, g4, g5, g6, g7, g8⟩ hK
      refine ⟨j, cnt, Wo, g1, g2, g3, hR.stab _ _ _ _ g4 (hK.low (by omega) fun b hb => .inr (g7 b hb).1), hK.box g5 (.inr g8), ?_, fun b hb => ⟨(g7 b hb).1, Nat.lt_of_lt_of_le (g7 b hb).2.1 hK.next, (g7 b hb).2.2⟩, g8⟩
      obtain ⟨kv, hv, vs, h3, h4, h5, h6, h7, h8⟩ := g6
      exact ⟨kv, hv, vs, hK.box h3 (.inl (by omega)), hK.box h4 (.inl (by omega)), hK.box h5 (.inl (by omega)), hK.elems h6, hK.elems h7, fun j h h' => PTrue_dk _ _ _ _ hK.dat (h8 j h h')⟩
    · rintro x W D D' ⟨rfl, Wo, g1, g2⟩ hK
      exact ⟨rfl, Wo, hR.stabS _ _ _ g1 (hK.low (by omega) fun b hb => .inr (g2 b hb).1), fun b hb => ⟨(g2 b hb).1, Nat.lt_of_lt_of_le (g2 b hb).2.1 hK.next, (g2 b hb).2.2⟩⟩
    · rintro i W E ys hi ⟨j0, cnt0, Wo0, g1, g2, g3, g4, g5, g6, g7, g8⟩ hlt2 hWE ⟨hia, u, rfl, hu⟩ _
      refine ⟨rfl, _, rfl, ?_⟩
      have hu' := hu; cases (hu : _ = _)
      simp only [zaa,zab,zac,zad,zae,zaf,zag,zah,zai,zaj,zak,zal,zam,zan,zao,zap,zaq,zar,zas,zat,zau,zav,zaw,zax,zay,zaz,zba,aUn,zbb,zbc,zbd,zbe,zbf,zbg,zbh,zbi,zbj,zbk,zbl,zbm,zbn,flat,simple,zbo,zbp,zbq,zbr,zbs,zbt,zbu,zbv,zbw,zbx,zby,zbz,zca,zcb,zcc,zcd,zce,zcf,zcg,zch,zci,zcj,zck,zcl,zcm,zcn,zco,zcp,zcq,zcr,Nat.reduceEqDiff,Nat.reduceLT,Nat.reduceAdd,Nat.reduceSub,reduceIte,Kt_P,zcs,zct,zcu,zcv,zcw,zcx,zcy,zcz,zda,zdb,zdc,zdd,zde,zdf,zdg,zdh,zdi,zdj,zdk,reduceCtorEq,zdl,zdm,zdn,goInt,zdo,zdp,zdq,zdr,zds,zdt,zdu,zdv,zdw,zdx,zdy,zdz,zea,zeb,zec,zed,zdk,zee,zef,zeg,zeh,zei,zej,zek,zel,zem,zen,zeo,zep,zeq,zer,zes,zet,zeu,zev,zew,zex,zey,ya,yb,yc,yd,ye,yf,ts_int,ts_int64,ts_bool,ts_ints,ts_post,ts_posts,yg,yh,yi,yj,yk,yl,ym,ts_intsl,ts_int64s,ts_bools,ts_side,ts_sideb,ts_pints,ts_pbool,aPure,aLen]
      refine OpW_alloc_of ts_bool tz_bool rfl fun b10 E1 hb10 hm10 hE10 hB10 => ?_
      simp only [zaa,zab,zac,zad,zae,zaf,zag,zah,zai,zaj,zak,zal,zam,zan,zao,zap,zaq,zar,zas,zat,zau,zav,zaw,zax,zay,zaz,zba,aUn,zbb,zbc,zbd,zbe,zbf,zbg,zbh,zbi,zbj,zbk,zbl,zbm,zbn,flat,simple,zbo,zbp,zbq,zbr,zbs,zbt,zbu,zbv,zbw,zbx,zby,zbz,zca,zcb,zcc,zcd,zce,zcf,zcg,zch,zci,zcj,zck,zcl,zcm,zcn,zco,zcp,zcq,zcr,Nat.reduceEqDiff,Nat.reduceLT,Nat.reduceAdd,Nat.reduceSub,reduceIte,Kt_P,zcs,zct,zcu,zcv,zcw,zcx,zcy,zcz,zda,zdb,zdc,zdd,zde,zdf,zdg,zdh,zdi,zdj,zdk,reduceCtorEq,zdl,zdm,zdn,goInt,zdo,zdp,zdq,zdr,zds,zdt,zdu,zdv,zdw,zdx,zdy,zdz,zea,zeb,zec,zed,zdk,zee,zef,zeg,zeh,zei,zej,zek,zel,zem,zen,zeo,zep,zeq,zer,zes,zet,zeu,zev,zew,zex,zey,ya,yb,yc,yd,ye,yf,ts_int,ts_int64,ts_bool,ts_ints,ts_post,ts_posts,yg,yh,yi,yj,yk,yl,ym,ts_intsl,ts_int64s,ts_bools,ts_side,ts_sideb,ts_pints,ts_pbool,aPure,aLen]
      refine OpW_store_of hB10 ⟨rfl, rfl⟩ rfl ts_bool (Nat.le_refl _) rfl fun E2 hm11 hF11 hB11 => ?_
      replace hB11 : Box E2 b10 4 [(.bool true)] := hB11
      simp only [zaa,zab,zac,zad,zae,zaf,zag,zah,zai,zaj,zak,zal,zam,zan,zao,zap,zaq,zar,zas,zat,zau,zav,zaw,zax,zay,zaz,zba,aUn,zbb,zbc,zbd,zbe,zbf,zbg,zbh,zbi,zbj,zbk,zbl,zbm,zbn,flat,simple,zbo,zbp,zbq,zbr,zbs,zbt,zbu,zbv,zbw,zbx,zby,zbz,zca,zcb,zcc,zcd,zce,zcf,zcg,zch,zci,zcj,zck,zcl,zcm,zcn,zco,zcp,zcq,zcr,Nat.reduceEqDiff,Nat.reduceLT,Nat.reduceAdd,Nat.reduceSub,reduceIte,Kt_P,zcs,zct,zcu,zcv,zcw,zcx,zcy,zcz,zda,zdb,zdc,zdd,zde,zdf,zdg,zdh,zdi,zdj,zdk,reduceCtorEq,zdl,zdm,zdn,goInt,zdo,zdp,zdq,zdr,zds,zdt,zdu,zdv,zdw,zdx,zdy,zdz,zea,zeb,zec,zed,zdk,zee,zef,zeg,zeh,zei,zej,zek,zel,zem,zen,zeo,zep,zeq,zer,zes,zet,zeu,zev,zew,zex,zey,ya,yb,yc,yd,ye,yf,ts_int,ts_int64,ts_bool,ts_ints,ts_post,ts_posts,yg,yh,yi,yj,yk,yl,ym,ts_intsl,ts_int64s,ts_bools,ts_side,ts_sideb,ts_pints,ts_pbool,aPure,aLen]
      have hEE : Ext E E2 := Fr.trans hE10 hF11 fun b hb hc => by omega
      refine ⟨hEE, fun G hGn hGF => ?_⟩
      have hEG : Fr (fun b => b = D2.next) E G := Fr.trans hEE.fr hGF fun _ _ h => h
      have q5 := hEG.box g5 (by omega)
      have q6 := g6.fr PTrue_dk hEG ⟨by omega, by omega, by omega⟩
      have q10 := hGF.box hB11 (by omega)
      have q4 := hR.stab _ _ _ _ g4 (hEG.keep (base := A1.next) fun b _ hb => ⟨by omega, fun hw => (hWE b (g7 b hw).1).2.2.1 hb⟩)
      have qu : PTrue G (.bool true) xs[i].2 := PTrue_dk _ _ _ _ hEG.dat hu'
      rw [List.drop_eq_getElem_cons hi] at g3
      refine Lop_inv (fun k e C => ∃ (j cnt : Nat) (Wo : Nat → Prop), (e 3 = .pointer (some ⟨b3, 0, none⟩) ∧ e 4 = .pointer (some ⟨b4, 0, none⟩) ∧ e 5 = .pointer (some ⟨b5, 0, none⟩) ∧ e 8 = .pointer (some ⟨b8, 0, none⟩) ∧ e 9 = .int .i64 xs[i].1 ∧ e 10 = .pointer (some ⟨b10, 0, none⟩)) ∧
          k = bs.length - j ∧ j ≤ bs.length ∧ cnt ≤ (mrg xs bs).length ∧ (mrg xs bs).drop cnt = mrg (xs[i] :: xs.drop (i + 1)) (bs.drop j) ∧ I cnt Wo C ∧ Box C b8 3 [.int .i64 j] ∧ Box C b10 4 [(.bool true)] ∧ PTrue C (.bool true) xs[i].2 ∧
          Tog PTrue 3 4 236 59 237 lp b3 b4 b5 bs C ∧ (∀ b, Wo b → (W b ∨ E.next ≤ b) ∧ b < C.next ∧ (W1 b ∨ b8 < b) ∧ b ≠ b10) ∧ Fr (fun b => W b ∨ E.next ≤ b) G C)
        ?_ (bs.length - j0) _ _ ⟨j0, cnt0, Wo0, by simp [put_at], rfl, g1, g2, g3, q4, q5, q10, qu, q6, fun b hb => ⟨.inl (g7 b hb).1, by have := (g7 b hb).2.1; omega, (g7 b hb).2.2, by have := (g7 b hb).2.1; omega⟩, Fr.refl _ _⟩
      clear q4 q5 q6 q10 qu g1 g2 g3 g4 g5 g6 g7
      rintro k e C ⟨j, cnt, Wo, ⟨e3, e4, e5, e8, e9, e10⟩, rfl, c1, c2, c3, c4, c5, c10, cu, c6, c7, cF⟩
      have hGC := cF.next
      have c6' := c6
      obtain ⟨kv, hv, vs, t3, t4, t5, t6, t7, t8⟩ := c6
      obtain ⟨okk, hokk, _, dkk⟩ := t6.opened
      obtain ⟨okh, hokh, hlen, dkh⟩ := t7.opened
      subst hokk; subst hokh
      have l8 := c5.load (P := Tryz.prog) (o := 0) (t := 3) Tryz.underlying3 rfl rfl
      have l3 := t3.load (P := Tryz.prog) (o := 0) (t := 236) Tryz.underlying236 rfl rfl
      have l4 := t4.load (P := Tryz.prog) (o := 0) (t := 59) Tryz.underlying59 rfl rfl
      have l5 := t5.load (P := Tryz.prog) (o := 0) (t := 237) Tryz.underlying237 rfl rfl
      have hWo : ∀ b, Wo b → b < C.next ∧ ¬ (b = ba ∨ b = bb ∨ Rda b ∨ Rdb b) := fun b hb => ⟨(c7 b hb).2.1, (c7 b hb).2.2.1.elim (fun h => (hW b h).2) fun h hc => by
        have h1 := hba.1
        have h2 := hbb.1
        rcases hc with h3 | h3 | h3 | h3
        · omega
        · omega
        · have := ia.1 b h3; omega
        · have := ib.1 b h3; omega⟩
      have hbase : A1.next ≤ C.next := by omega
      simp only [zaa,zab,zac,zad,zae,zaf,zag,zah,zai,zaj,zak,zal,zam,zan,zao,zap,zaq,zar,zas,zat,zau,zav,zaw,zax,zay,zaz,zba,aUn,zbb,zbc,zbd,zbe,zbf,zbg,zbh,zbi,zbj,zbk,zbl,zbm,zbn,flat,simple,zbo,zbp,zbq,zbr,zbs,zbt,zbu,zbv,zbw,zbx,zby,zbz,zca,zcb,zcc,zcd,zce,zcf,zcg,zch,zci,zcj,zck,zcl,zcm,zcn,zco,zcp,zcq,zcr,Nat.reduceEqDiff,Nat.reduceLT,Nat.reduceAdd,Nat.reduceSub,reduceIte,Kt_P,zcs,zct,zcu,zcv,zcw,zcx,zcy,zcz,zda,zdb,zdc,zdd,zde,zdf,zdg,zdh,zdi,zdj,zdk,reduceCtorEq,zdl,zdm,zdn,goInt,zdo,zdp,zdq,zdr,zds,zdt,zdu,zdv,zdw,zdx,zdy,zdz,zea,zeb,zec,zed,zdk,zee,zef,zeg,zeh,zei,zej,zek,zel,zem,zen,zeo,zep,zeq,zer,zes,zet,zeu,zev,zew,zex,zey,ya,yb,yc,yd,ye,yf,ts_int,ts_int64,ts_bool,ts_ints,ts_post,ts_posts,yg,yh,yi,yj,yk,yl,ym,ts_intsl,ts_int64s,ts_bools,ts_side,ts_sideb,ts_pints,ts_pbool,aPure,aLen,e3,e4,e5,e8,e9,e10,l8,l4]
      refine Grd_of (fun hj => ?_) (fun hj => ?_)
      · obtain ⟨bk, hbk, hdk⟩ := dkk j hj
        obtain ⟨bh, hbh, hdh⟩ := dkh j hj
        subst hbk; subst hbh
        have lkey := hdk.load (P := Tryz.prog) (o := j) (t := 3) Tryz.underlying3 rfl (v := .int .i64 bs[j].1) (by simp [ints, hj])
        simp only [zaa,zab,zac,zad,zae,zaf,zag,zah,zai,zaj,zak,zal,zam,zan,zao,zap,zaq,zar,zas,zat,zau,zav,zaw,zax,zay,zaz,zba,aUn,zbb,zbc,zbd,zbe,zbf,zbg,zbh,zbi,zbj,zbk,zbl,zbm,zbn,flat,simple,zbo,zbp,zbq,zbr,zbs,zbt,zbu,zbv,zbw,zbx,zby,zbz,zca,zcb,zcc,zcd,zce,zcf,zcg,zch,zci,zcj,zck,zcl,zcm,zcn,zco,zcp,zcq,zcr,Nat.reduceEqDiff,Nat.reduceLT,Nat.reduceAdd,Nat.reduceSub,reduceIte,Kt_P,zcs,zct,zcu,zcv,zcw,zcx,zcy,zcz,zda,zdb,zdc,zdd,zde,zdf,zdg,zdh,zdi,zdj,zdk,reduceCtorEq,zdl,zdm,zdn,goInt,zdo,zdp,zdq,zdr,zds,zdt,zdu,zdv,zdw,zdx,zdy,zdz,zea,zeb,zec,zed,zdk,zee,zef,zeg,zeh,zei,zej,zek,zel,zem,zen,zeo,zep,zeq,zer,zes,zet,zeu,zev,zew,zex,zey,ya,yb,yc,yd,ye,yf,ts_int,ts_int64,ts_bool,ts_ints,ts_post,ts_posts,yg,yh,yi,yj,yk,yl,ym,ts_intsl,ts_int64s,ts_bools,ts_side,ts_sideb,ts_pints,ts_pbool,aPure,aLen,e3,e4,e5,e8,e9,e10,l8,l4,lkey,hj]
        refine Way_of (fun hless => ?_) (fun hmore => ?_)
        · rw [List.drop_eq_getElem_cons hj, mrg_lt hless] at c3
          obtain ⟨hcnt, hitem, hrest⟩ := drop_head c3
          simp only [zaa,zab,zac,zad,zae,zaf,zag,zah,zai,zaj,zak,zal,zam,zan,zao,zap,zaq,zar,zas,zat,zau,zav,zaw,zax,zay,zaz,zba,aUn,zbb,zbc,zbd,zbe,zbf,zbg,zbh,zbi,zbj,zbk,zbl,zbm,zbn,flat,simple,zbo,zbp,zbq,zbr,zbs,zbt,zbu,zbv,zbw,zbx,zby,zbz,zca,zcb,zcc,zcd,zce,zcf,zcg,zch,zci,zcj,zck,zcl,zcm,zcn,zco,zcp,zcq,zcr,Nat.reduceEqDiff,Nat.reduceLT,Nat.reduceAdd,Nat.reduceSub,reduceIte,Kt_P,zcs,zct,zcu,zcv,zcw,zcx,zcy,zcz,zda,zdb,zdc,zdd,zde,zdf,zdg,zdh,zdi,zdj,zdk,reduceCtorEq,zdl,zdm,zdn,goInt,zdo,zdp,zdq,zdr,zds,zdt,zdu,zdv,zdw,zdx,zdy,zdz,zea,zeb,zec,zed,zdk,zee,zef,zeg,zeh,zei,zej,zek,zel,zem,zen,zeo,zep,zeq,zer,zes,zet,zeu,zev,zew,zex,zey,ya,yb,yc,yd,ye,yf,ts_int,ts_int64,ts_bool,ts_ints,ts_post,ts_posts,yg,yh,yi,yj,yk,yl,ym,ts_intsl,ts_int64s,ts_bools,ts_side,ts_sideb,ts_pints,ts_pbool,aPure,aLen]
          rw [Cod_draw (by kernel_rfl) (by kernel_rfl)]
          simp only [zaa,zab,zac,zad,zae,zaf,zag,zah,zai,zaj,zak,zal,zam,zan,zao,zap,zaq,zar,zas,zat,zau,zav,zaw,zax,zay,zaz,zba,aUn,zbb,zbc,zbd,zbe,zbf,zbg,zbh,zbi,zbj,zbk,zbl,zbm,zbn,flat,simple,zbo,zbp,zbq,zbr,zbs,zbt,zbu,zbv,zbw,zbx,zby,zbz,zca,zcb,zcc,zcd,zce,zcf,zcg,zch,zci,zcj,zck,zcl,zcm,zcn,zco,zcp,zcq,zcr,Nat.reduceEqDiff,Nat.reduceLT,Nat.reduceAdd,Nat.reduceSub,reduceIte,Kt_P,zcs,zct,zcu,zcv,zcw,zcx,zcy,zcz,zda,zdb,zdc,zdd,zde,zdf,zdg,zdh,zdi,zdj,zdk,reduceCtorEq,zdl,zdm,zdn,goInt,zdo,zdp,zdq,zdr,zds,zdt,zdu,zdv,zdw,zdx,zdy,zdz,zea,zeb,zec,zed,zdk,zee,zef,zeg,zeh,zei,zej,zek,zel,zem,zen,zeo,zep,zeq,zer,zes,zet,zeu,zev,zew,zex,zey,ya,yb,yc,yd,ye,yf,ts_int,ts_int64,ts_bool,ts_ints,ts_post,ts_posts,yg,yh,yi,yj,yk,yl,ym,ts_intsl,ts_int64s,ts_bools,ts_side,ts_sideb,ts_pints,ts_pbool,aPure,aLen,e3,e4,e5,e8,e9,e10,l8,l3,l4,l5,lkey,hj,bs_sideb]
          have hjv : j < vs.length := by omega
          refine (hR.round cnt Wo C _ hcnt c4 hbase hWo ⟨hcnt, .pointer none, .pointer (some ⟨bh, j, none⟩), by rw [hitem], by rw [hitem]; rfl, ?_⟩).mono ?_
          · rw [hitem]
            obtain ⟨rr, r1, r2, _⟩ := hdh.arow
            exact ⟨bh, j, rr, vs[j], rfl, hdh.1, r1, by rw [r2]; simp [hjv], t8 j hj hjv⟩
          · rintro res C' ⟨Wo', hF', hW', hcase⟩
            have HP := PTrue_dk
            have hFr := cF.trans hF' fun b hb hc => (c7 b hc).1
            have nW : ∀ b, A1.next ≤ b → b ≤ b8 → ¬ Wo b := fun b h1 h2 hc => (c7 b hc).2.2.1.elim (fun h => by have := hn b h; omega) fun h => by omega
            have c5' := hF'.box c5 (nW b8 (by omega) (Nat.le_refl _))
            have c10' := hF'.box c10 fun hc => (c7 b10 hc).2.2.2 rfl
            have cu' := HP _ _ _ _ hF'.dat cu
            have c6'' := c6'.fr HP hF' ⟨nW b3 (by omega) (by omega), nW b4 (by omega) (by omega), nW b5 (by omega) (by omega)⟩
            have c7' : ∀ b, Wo' b → (W b ∨ E.next ≤ b) ∧ b < C'.next ∧ (W1 b ∨ b8 < b) ∧ b ≠ b10 := fun b hb => by
              obtain ⟨h1, h2 | h2⟩ := hW' b hb
              · exact ⟨(c7 b h2).1, h1, (c7 b h2).2.2⟩
              · have := cF.next
                exact ⟨.inr (by omega), h1, .inr (by omega), by omega⟩
            rcases hcase with ⟨rfl, hI'⟩ | ⟨rfl, hS'⟩
            · have l8' := c5'.load (P := Tryz.prog) (o := 0) (t := 3) Tryz.underlying3 rfl rfl
              simp only [zaa,zab,zac,zad,zae,zaf,zag,zah,zai,zaj,zak,zal,zam,zan,zao,zap,zaq,zar,zas,zat,zau,zav,zaw,zax,zay,zaz,zba,aUn,zbb,zbc,zbd,zbe,zbf,zbg,zbh,zbi,zbj,zbk,zbl,zbm,zbn,flat,simple,zbo,zbp,zbq,zbr,zbs,zbt,zbu,zbv,zbw,zbx,zby,zbz,zca,zcb,zcc,zcd,zce,zcf,zcg,zch,zci,zcj,zck,zcl,zcm,zcn,zco,zcp,zcq,zcr,Nat.reduceEqDiff,Nat.reduceLT,Nat.reduceAdd,Nat.reduceSub,reduceIte,Kt_P,zcs,zct,zcu,zcv,zcw,zcx,zcy,zcz,zda,zdb,zdc,zdd,zde,zdf,zdg,zdh,zdi,zdj,zdk,reduceCtorEq,zdl,zdm,zdn,goInt,zdo,zdp,zdq,zdr,zds,zdt,zdu,zdv,zdw,zdx,zdy,zdz,zea,zeb,zec,zed,zdk,zee,zef,zeg,zeh,zei,zej,zek,zel,zem,zen,zeo,zep,zeq,zer,zes,zet,zeu,zev,zew,zex,zey,ya,yb,yc,yd,ye,yf,ts_int,ts_int64,ts_bool,ts_ints,ts_post,ts_posts,yg,yh,yi,yj,yk,yl,ym,ts_intsl,ts_int64s,ts_bools,ts_side,ts_sideb,ts_pints,ts_pbool,aPure,aLen,e8,l8',wrap_succ hj (show (bs.length : Int) < _ by omega)]
              refine OpW_store_of (o := 0) c5' ⟨rfl, rfl⟩ (by simp only [zaa,zab,zac,zad,zae,zaf,zag,zah,zai,zaj,zak,zal,zam,zan,zao,zap,zaq,zar,zas,zat,zau,zav,zaw,zax,zay,zaz,zba,aUn,zbb,zbc,zbd,zbe,zbf,zbg,zbh,zbi,zbj,zbk,zbl,zbm,zbn,flat,simple,zbo,zbp,zbq,zbr,zbs,zbt,zbu,zbv,zbw,zbx,zby,zbz,zca,zcb,zcc,zcd,zce,zcf,zcg,zch,zci,zcj,zck,zcl,zcm,zcn,zco,zcp,zcq,zcr,Nat.reduceEqDiff,Nat.reduceLT,Nat.reduceAdd,Nat.reduceSub,reduceIte,Kt_P,zcs,zct,zcu,zcv,zcw,zcx,zcy,zcz,zda,zdb,zdc,zdd,zde,zdf,zdg,zdh,zdi,zdj,zdk,reduceCtorEq,zdl,zdm,zdn,goInt,zdo,zdp,zdq,zdr,zds,zdt,zdu,zdv,zdw,zdx,zdy,zdz,zea,zeb,zec,zed,zdk,zee,zef,zeg,zeh,zei,zej,zek,zel,zem,zen,zeo,zep,zeq,zer,zes,zet,zeu,zev,zew,zex,zey,ya,yb,yc,yd,ye,yf,ts_int,ts_int64,ts_bool,ts_ints,ts_post,ts_posts,yg,yh,yi,yj,yk,yl,ym,ts_intsl,ts_int64s,ts_bools,ts_side,ts_sideb,ts_pints,ts_pbool,aPure,aLen,e8]) ts_int (Nat.le_refl _) rfl fun C2 hm2 hF2 hB2 => ?_
              replace hB2 : Box C2 b8 3 [.int .i64 ((j + 1 : Nat) : Int)] := hB2
              simp only [zaa,zab,zac,zad,zae,zaf,zag,zah,zai,zaj,zak,zal,zam,zan,zao,zap,zaq,zar,zas,zat,zau,zav,zaw,zax,zay,zaz,zba,aUn,zbb,zbc,zbd,zbe,zbf,zbg,zbh,zbi,zbj,zbk,zbl,zbm,zbn,flat,simple,zbo,zbp,zbq,zbr,zbs,zbt,zbu,zbv,zbw,zbx,zby,zbz,zca,zcb,zcc,zcd,zce,zcf,zcg,zch,zci,zcj,zck,zcl,zcm,zcn,zco,zcp,zcq,zcr,Nat.reduceEqDiff,Nat.reduceLT,Nat.reduceAdd,Nat.reduceSub,reduceIte,Kt_P,zcs,zct,zcu,zcv,zcw,zcx,zcy,zcz,zda,zdb,zdc,zdd,zde,zdf,zdg,zdh,zdi,zdj,zdk,reduceCtorEq,zdl,zdm,zdn,goInt,zdo,zdp,zdq,zdr,zds,zdt,zdu,zdv,zdw,zdx,zdy,zdz,zea,zeb,zec,zed,zdk,zee,zef,zeg,zeh,zei,zej,zek,zel,zem,zen,zeo,zep,zeq,zer,zes,zet,zeu,zev,zew,zex,zey,ya,yb,yc,yd,ye,yf,ts_int,ts_int64,ts_bool,ts_ints,ts_post,ts_posts,yg,yh,yi,yj,yk,yl,ym,ts_intsl,ts_int64s,ts_bools,ts_side,ts_sideb,ts_pints,ts_pbool,aPure,aLen]
              have nb : ∀ b, Wo' b → b ≠ b8 := fun b hb h => (c7' b hb).2.2.1.elim (fun h1 => by have := hn b h1; omega) fun h1 => by omega
              have := cF.next
              exact ⟨bs.length - (j + 1), by omega, j + 1, cnt + 1, Wo', by simp [put_at, e3, e4, e5, e8, e9, e10], rfl, by omega, by omega, hrest, hR.stab _ _ _ _ hI' (hF2.keep fun b _ h => ⟨by omega, fun h1 => nb b h1 h⟩),
                hB2, hF2.box c10' (by omega), HP _ _ _ _ hF2.dat cu', c6''.fr HP hF2 ⟨by omega, by omega, by omega⟩, fun b hb => ⟨(c7' b hb).1, by have := (c7' b hb).2.1; omega, (c7' b hb).2.2⟩, hFr.trans hF2 fun b _ h => .inl (by rw [h]; exact g8)⟩
            · simp only [zaa,zab,zac,zad,zae,zaf,zag,zah,zai,zaj,zak,zal,zam,zan,zao,zap,zaq,zar,zas,zat,zau,zav,zaw,zax,zay,zaz,zba,aUn,zbb,zbc,zbd,zbe,zbf,zbg,zbh,zbi,zbj,zbk,zbl,zbm,zbn,flat,simple,zbo,zbp,zbq,zbr,zbs,zbt,zbu,zbv,zbw,zbx,zby,zbz,zca,zcb,zcc,zcd,zce,zcf,zcg,zch,zci,zcj,zck,zcl,zcm,zcn,zco,zcp,zcq,zcr,Nat.reduceEqDiff,Nat.reduceLT,Nat.reduceAdd,Nat.reduceSub,reduceIte,Kt_P,zcs,zct,zcu,zcv,zcw,zcx,zcy,zcz,zda,zdb,zdc,zdd,zde,zdf,zdg,zdh,zdi,zdj,zdk,reduceCtorEq,zdl,zdm,zdn,goInt,zdo,zdp,zdq,zdr,zds,zdt,zdu,zdv,zdw,zdx,zdy,zdz,zea,zeb,zec,zed,zdk,zee,zef,zeg,zeh,zei,zej,zek,zel,zem,zen,zeo,zep,zeq,zer,zes,zet,zeu,zev,zew,zex,zey,ya,yb,yc,yd,ye,yf,ts_int,ts_int64,ts_bool,ts_ints,ts_post,ts_posts,yg,yh,yi,yj,yk,yl,ym,ts_intsl,ts_int64s,ts_bools,ts_side,ts_sideb,ts_pints,ts_pbool,aPure,aLen]
              refine ⟨hFr, fun h => (by cases h), fun _ => ⟨Wo', hS', fun b hb => ⟨(c7' b hb).1.imp id fun h => ⟨h, (c7' b hb).2.1⟩, (c7' b hb).2.1, (c7' b hb).2.2.1⟩⟩⟩
        · simp only [zaa,zab,zac,zad,zae,zaf,zag,zah,zai,zaj,zak,zal,zam,zan,zao,zap,zaq,zar,zas,zat,zau,zav,zaw,zax,zay,zaz,zba,aUn,zbb,zbc,zbd,zbe,zbf,zbg,zbh,zbi,zbj,zbk,zbl,zbm,zbn,flat,simple,zbo,zbp,zbq,zbr,zbs,zbt,zbu,zbv,zbw,zbx,zby,zbz,zca,zcb,zcc,zcd,zce,zcf,zcg,zch,zci,zcj,zck,zcl,zcm,zcn,zco,zcp,zcq,zcr,Nat.reduceEqDiff,Nat.reduceLT,Nat.reduceAdd,Nat.reduceSub,reduceIte,Kt_P,zcs,zct,zcu,zcv,zcw,zcx,zcy,zcz,zda,zdb,zdc,zdd,zde,zdf,zdg,zdh,zdi,zdj,zdk,reduceCtorEq,zdl,zdm,zdn,goInt,zdo,zdp,zdq,zdr,zds,zdt,zdu,zdv,zdw,zdx,zdy,zdz,zea,zeb,zec,zed,zdk,zee,zef,zeg,zeh,zei,zej,zek,zel,zem,zen,zeo,zep,zeq,zer,zes,zet,zeu,zev,zew,zex,zey,ya,yb,yc,yd,ye,yf,ts_int,ts_int64,ts_bool,ts_ints,ts_post,ts_posts,yg,yh,yi,yj,yk,yl,ym,ts_intsl,ts_int64s,ts_bools,ts_side,ts_sideb,ts_pints,ts_pbool,aPure,aLen,e10,as_sideb]
          refine OpW_alloc_of ts_sideb tz_sideb rfl fun b11 C1 hb11 hm1 hF1 hB1 => ?_
          simp only [zaa,zab,zac,zad,zae,zaf,zag,zah,zai,zaj,zak,zal,zam,zan,zao,zap,zaq,zar,zas,zat,zau,zav,zaw,zax,zay,zaz,zba,aUn,zbb,zbc,zbd,zbe,zbf,zbg,zbh,zbi,zbj,zbk,zbl,zbm,zbn,flat,simple,zbo,zbp,zbq,zbr,zbs,zbt,zbu,zbv,zbw,zbx,zby,zbz,zca,zcb,zcc,zcd,zce,zcf,zcg,zch,zci,zcj,zck,zcl,zcm,zcn,zco,zcp,zcq,zcr,Nat.reduceEqDiff,Nat.reduceLT,Nat.reduceAdd,Nat.reduceSub,reduceIte,Kt_P,zcs,zct,zcu,zcv,zcw,zcx,zcy,zcz,zda,zdb,zdc,zdd,zde,zdf,zdg,zdh,zdi,zdj,zdk,reduceCtorEq,zdl,zdm,zdn,goInt,zdo,zdp,zdq,zdr,zds,zdt,zdu,zdv,zdw,zdx,zdy,zdz,zea,zeb,zec,zed,zdk,zee,zef,zeg,zeh,zei,zej,zek,zel,zem,zen,zeo,zep,zeq,zer,zes,zet,zeu,zev,zew,zex,zey,ya,yb,yc,yd,ye,yf,ts_int,ts_int64,ts_bool,ts_ints,ts_post,ts_posts,yg,yh,yi,yj,yk,yl,ym,ts_intsl,ts_int64s,ts_bools,ts_side,ts_sideb,ts_pints,ts_pbool,aPure,aLen]
          refine OpW_store_of (o := 0) hB1 ⟨rfl, rfl⟩ rfl ts_sideb (Nat.le_refl _) rfl fun C2 hm2 hF2 hB2 => ?_
          replace hB2 : Box C2 b11 240 [.pointer (some ⟨b10, 0, none⟩), .pointer none] := hB2
          have hX : Ext C C2 := Fr.trans hF1 hF2 fun b hb hc => by omega
          have HP := PTrue_dk
          have h811 : b8 < b11 := by have := c5.1; omega
          have h1011 : b10 < b11 := by have := c10.1; omega
          have hWo11 : ∀ b, Wo b → b < b11 := fun b hb => by have := (c7 b hb).2.1; omega
          replace c4 := hR.stab _ _ _ _ c4 (hX.keep (base := A1.next) fun _ _ h => h.elim)
          replace c5 := hX.box c5 fun h => h
          replace c10 := hX.box c10 fun h => h
          replace cu := HP _ _ _ _ hX.dat cu
          replace c6' := c6'.fr HP hX ⟨fun h => h, fun h => h, fun h => h⟩
          replace t3 := hX.box t3 fun h => h
          replace t4 := hX.box t4 fun h => h
          replace t5 := hX.box t5 fun h => h
          replace c7 : ∀ b, Wo b → (W b ∨ E.next ≤ b) ∧ b < C2.next ∧ (W1 b ∨ b8 < b) ∧ b ≠ b10 := fun b hb => ⟨(c7 b hb).1, by have := (c7 b hb).2.1; omega, (c7 b hb).2.2⟩
          replace cF := Fr.trans cF hX fun b _ h => False.elim h
          replace hWo : ∀ b, Wo b → b < C2.next ∧ ¬ (b = ba ∨ b = bb ∨ Rda b ∨ Rdb b) := fun b hb => ⟨(c7 b hb).2.1, (hWo b hb).2⟩
          replace hbase : A1.next ≤ C2.next := by omega
          have l8 := c5.load (P := Tryz.prog) (o := 0) (t := 3) Tryz.underlying3 rfl rfl
          have l3 := t3.load (P := Tryz.prog) (o := 0) (t := 236) Tryz.underlying236 rfl rfl
          have l4 := t4.load (P := Tryz.prog) (o := 0) (t := 59) Tryz.underlying59 rfl rfl
          have l5 := t5.load (P := Tryz.prog) (o := 0) (t := 237) Tryz.underlying237 rfl rfl
          replace hdh := hX.dat _ _ _ hdh
          replace lkey := (hX.dat _ _ _ hdk).load (P := Tryz.prog) (o := j) (t := 3) Tryz.underlying3 rfl (v := .int .i64 bs[j].1) (by simp [ints, hj])
          simp only [zaa,zab,zac,zad,zae,zaf,zag,zah,zai,zaj,zak,zal,zam,zan,zao,zap,zaq,zar,zas,zat,zau,zav,zaw,zax,zay,zaz,zba,aUn,zbb,zbc,zbd,zbe,zbf,zbg,zbh,zbi,zbj,zbk,zbl,zbm,zbn,flat,simple,zbo,zbp,zbq,zbr,zbs,zbt,zbu,zbv,zbw,zbx,zby,zbz,zca,zcb,zcc,zcd,zce,zcf,zcg,zch,zci,zcj,zck,zcl,zcm,zcn,zco,zcp,zcq,zcr,Nat.reduceEqDiff,Nat.reduceLT,Nat.reduceAdd,Nat.reduceSub,reduceIte,Kt_P,zcs,zct,zcu,zcv,zcw,zcx,zcy,zcz,zda,zdb,zdc,zdd,zde,zdf,zdg,zdh,zdi,zdj,zdk,reduceCtorEq,zdl,zdm,zdn,goInt,zdo,zdp,zdq,zdr,zds,zdt,zdu,zdv,zdw,zdx,zdy,zdz,zea,zeb,zec,zed,zdk,zee,zef,zeg,zeh,zei,zej,zek,zel,zem,zen,zeo,zep,zeq,zer,zes,zet,zeu,zev,zew,zex,zey,ya,yb,yc,yd,ye,yf,ts_int,ts_int64,ts_bool,ts_ints,ts_post,ts_posts,yg,yh,yi,yj,yk,yl,ym,ts_intsl,ts_int64s,ts_bools,ts_side,ts_sideb,ts_pints,ts_pbool,aPure,aLen,e3,e4,e5,e8,e9,e10,l8,l4,lkey,hj]
          rw [List.drop_eq_getElem_cons hj] at c3
          refine Way_of (fun heq => ?_) (fun hne => ?_)
          · simp only [zaa,zab,zac,zad,zae,zaf,zag,zah,zai,zaj,zak,zal,zam,zan,zao,zap,zaq,zar,zas,zat,zau,zav,zaw,zax,zay,zaz,zba,aUn,zbb,zbc,zbd,zbe,zbf,zbg,zbh,zbi,zbj,zbk,zbl,zbm,zbn,flat,simple,zbo,zbp,zbq,zbr,zbs,zbt,zbu,zbv,zbw,zbx,zby,zbz,zca,zcb,zcc,zcd,zce,zcf,zcg,zch,zci,zcj,zck,zcl,zcm,zcn,zco,zcp,zcq,zcr,Nat.reduceEqDiff,Nat.reduceLT,Nat.reduceAdd,Nat.reduceSub,reduceIte,Kt_P,zcs,zct,zcu,zcv,zcw,zcx,zcy,zcz,zda,zdb,zdc,zdd,zde,zdf,zdg,zdh,zdi,zdj,zdk,reduceCtorEq,zdl,zdm,zdn,goInt,zdo,zdp,zdq,zdr,zds,zdt,zdu,zdv,zdw,zdx,zdy,zdz,zea,zeb,zec,zed,zdk,zee,zef,zeg,zeh,zei,zej,zek,zel,zem,zen,zeo,zep,zeq,zer,zes,zet,zeu,zev,zew,zex,zey,ya,yb,yc,yd,ye,yf,ts_int,ts_int64,ts_bool,ts_ints,ts_post,ts_posts,yg,yh,yi,yj,yk,yl,ym,ts_intsl,ts_int64s,ts_bools,ts_side,ts_sideb,ts_pints,ts_pbool,aPure,aLen,e5,e8,l5,l8,hj]
            refine OpW_store_of (o := 1) hB2 ⟨rfl, rfl⟩ (by simp only [zaa,zab,zac,zad,zae,zaf,zag,zah,zai,zaj,zak,zal,zam,zan,zao,zap,zaq,zar,zas,zat,zau,zav,zaw,zax,zay,zaz,zba,aUn,zbb,zbc,zbd,zbe,zbf,zbg,zbh,zbi,zbj,zbk,zbl,zbm,zbn,flat,simple,zbo,zbp,zbq,zbr,zbs,zbt,zbu,zbv,zbw,zbx,zby,zbz,zca,zcb,zcc,zcd,zce,zcf,zcg,zch,zci,zcj,zck,zcl,zcm,zcn,zco,zcp,zcq,zcr,Nat.reduceEqDiff,Nat.reduceLT,Nat.reduceAdd,Nat.reduceSub,reduceIte,Kt_P,zcs,zct,zcu,zcv,zcw,zcx,zcy,zcz,zda,zdb,zdc,zdd,zde,zdf,zdg,zdh,zdi,zdj,zdk,reduceCtorEq,zdl,zdm,zdn,goInt,zdo,zdp,zdq,zdr,zds,zdt,zdu,zdv,zdw,zdx,zdy,zdz,zea,zeb,zec,zed,zdk,zee,zef,zeg,zeh,zei,zej,zek,zel,zem,zen,zeo,zep,zeq,zer,zes,zet,zeu,zev,zew,zex,zey,ya,yb,yc,yd,ye,yf,ts_int,ts_int64,ts_bool,ts_ints,ts_post,ts_posts,yg,yh,yi,yj,yk,yl,ym,ts_intsl,ts_int64s,ts_bools,ts_side,ts_sideb,ts_pints,ts_pbool,aPure,aLen]) ts_pbool (Nat.le_refl _) rfl fun C3 hm3 hF3 hB3 => ?_
            replace hB3 : Box C3 b11 240 [.pointer (some ⟨b10, 0, none⟩), .pointer (some ⟨bh, j, none⟩)] := hB3
            have c5a := hF3.box c5 (by omega)
            have l8a := c5a.load (P := Tryz.prog) (o := 0) (t := 3) Tryz.underlying3 rfl rfl
            simp only [zaa,zab,zac,zad,zae,zaf,zag,zah,zai,zaj,zak,zal,zam,zan,zao,zap,zaq,zar,zas,zat,zau,zav,zaw,zax,zay,zaz,zba,aUn,zbb,zbc,zbd,zbe,zbf,zbg,zbh,zbi,zbj,zbk,zbl,zbm,zbn,flat,simple,zbo,zbp,zbq,zbr,zbs,zbt,zbu,zbv,zbw,zbx,zby,zbz,zca,zcb,zcc,zcd,zce,zcf,zcg,zch,zci,zcj,zck,zcl,zcm,zcn,zco,zcp,zcq,zcr,Nat.reduceEqDiff,Nat.reduceLT,Nat.reduceAdd,Nat.reduceSub,reduceIte,Kt_P,zcs,zct,zcu,zcv,zcw,zcx,zcy,zcz,zda,zdb,zdc,zdd,zde,zdf,zdg,zdh,zdi,zdj,zdk,reduceCtorEq,zdl,zdm,zdn,goInt,zdo,zdp,zdq,zdr,zds,zdt,zdu,zdv,zdw,zdx,zdy,zdz,zea,zeb,zec,zed,zdk,zee,zef,zeg,zeh,zei,zej,zek,zel,zem,zen,zeo,zep,zeq,zer,zes,zet,zeu,zev,zew,zex,zey,ya,yb,yc,yd,ye,yf,ts_int,ts_int64,ts_bool,ts_ints,ts_post,ts_posts,yg,yh,yi,yj,yk,yl,ym,ts_intsl,ts_int64s,ts_bools,ts_side,ts_sideb,ts_pints,ts_pbool,aPure,aLen,e8,l8a,wrap_succ hj (show (bs.length : Int) < _ by omega)]
            refine OpW_store_of (o := 0) c5a ⟨rfl, rfl⟩ (by simp only [zaa,zab,zac,zad,zae,zaf,zag,zah,zai,zaj,zak,zal,zam,zan,zao,zap,zaq,zar,zas,zat,zau,zav,zaw,zax,zay,zaz,zba,aUn,zbb,zbc,zbd,zbe,zbf,zbg,zbh,zbi,zbj,zbk,zbl,zbm,zbn,flat,simple,zbo,zbp,zbq,zbr,zbs,zbt,zbu,zbv,zbw,zbx,zby,zbz,zca,zcb,zcc,zcd,zce,zcf,zcg,zch,zci,zcj,zck,zcl,zcm,zcn,zco,zcp,zcq,zcr,Nat.reduceEqDiff,Nat.reduceLT,Nat.reduceAdd,Nat.reduceSub,reduceIte,Kt_P,zcs,zct,zcu,zcv,zcw,zcx,zcy,zcz,zda,zdb,zdc,zdd,zde,zdf,zdg,zdh,zdi,zdj,zdk,reduceCtorEq,zdl,zdm,zdn,goInt,zdo,zdp,zdq,zdr,zds,zdt,zdu,zdv,zdw,zdx,zdy,zdz,zea,zeb,zec,zed,zdk,zee,zef,zeg,zeh,zei,zej,zek,zel,zem,zen,zeo,zep,zeq,zer,zes,zet,zeu,zev,zew,zex,zey,ya,yb,yc,yd,ye,yf,ts_int,ts_int64,ts_bool,ts_ints,ts_post,ts_posts,yg,yh,yi,yj,yk,yl,ym,ts_intsl,ts_int64s,ts_bools,ts_side,ts_sideb,ts_pints,ts_pbool,aPure,aLen,e8]) ts_int (Nat.le_refl _) rfl fun C4 hm4 hF4 hB5 => ?_
            replace c5 : Box C4 b8 3 [.int .i64 ((j + 1 : Nat) : Int)] := hB5
            have hY : Fr (fun b => b = b11 ∨ b = b8) C2 C4 := Fr.trans (hF3.weaken fun b _ h => .inl h) hF4 fun b _ h => .inr h
            have nb : ∀ b, Wo b → b ≠ b8 := fun b hb h => (c7 b hb).2.2.1.elim (fun h1 => by have := hn b h1; omega) fun h1 => by omega
            have hjv : j < vs.length := by omega
            have t8' := HP _ _ _ _ hY.dat (HP _ _ _ _ hX.dat (t8 j hj hjv))
            replace hdh := hY.dat _ _ _ hdh
            replace hB2 := hF4.box hB3 (by omega)
            replace c4 := hR.stab _ _ _ _ c4 (hY.keep (base := A1.next) fun b _ h => ⟨by omega, fun hw => h.elim (fun h => by have := hWo11 b hw; omega) fun h => nb b hw h⟩)
            replace c10 := hY.box c10 (by omega)
            replace cu := HP _ _ _ _ hY.dat cu
            replace c6' := c6'.fr HP hY ⟨by omega, by omega, by omega⟩
            replace t3 := hY.box t3 (by omega)
            replace l3 := t3.load (P := Tryz.prog) (o := 0) (t := 236) Tryz.underlying236 rfl rfl
            replace c7 : ∀ b, Wo b → (W b ∨ E.next ≤ b) ∧ b < C4.next ∧ (W1 b ∨ b8 < b) ∧ b ≠ b10 := fun b hb => ⟨(c7 b hb).1, by have := (c7 b hb).2.1; omega, (c7 b hb).2.2⟩
            replace cF := Fr.trans cF hY fun b _ h => h.elim (fun h => .inr (by omega)) fun h => .inl (by rw [h]; exact g8)
            replace hWo : ∀ b, Wo b → b < C4.next ∧ ¬ (b = ba ∨ b = bb ∨ Rda b ∨ Rdb b) := fun b hb => ⟨(c7 b hb).2.1, (hWo b hb).2⟩
            replace hbase : A1.next ≤ C4.next := by omega
            rw [mrg_eq heq] at c3
            obtain ⟨hcnt, hitem, hrest⟩ := drop_head c3
            obtain ⟨rr, r1, r2, _⟩ := hdh.arow
            have l11 : aLoadVar Tryz.prog C4 240 (.pointer (some ⟨b11, 0, none⟩)) = some (.agg #[.pointer (some ⟨b10, 0, none⟩), .pointer (some ⟨bh, j, none⟩)]) := hB2.loadAgg (o := 0) Tryz.underlying240 rfl ts_sideb (Nat.le_refl _)
            simp only [zaa,zab,zac,zad,zae,zaf,zag,zah,zai,zaj,zak,zal,zam,zan,zao,zap,zaq,zar,zas,zat,zau,zav,zaw,zax,zay,zaz,zba,aUn,zbb,zbc,zbd,zbe,zbf,zbg,zbh,zbi,zbj,zbk,zbl,zbm,zbn,flat,simple,zbo,zbp,zbq,zbr,zbs,zbt,zbu,zbv,zbw,zbx,zby,zbz,zca,zcb,zcc,zcd,zce,zcf,zcg,zch,zci,zcj,zck,zcl,zcm,zcn,zco,zcp,zcq,zcr,Nat.reduceEqDiff,Nat.reduceLT,Nat.reduceAdd,Nat.reduceSub,reduceIte,Kt_P,zcs,zct,zcu,zcv,zcw,zcx,zcy,zcz,zda,zdb,zdc,zdd,zde,zdf,zdg,zdh,zdi,zdj,zdk,reduceCtorEq,zdl,zdm,zdn,goInt,zdo,zdp,zdq,zdr,zds,zdt,zdu,zdv,zdw,zdx,zdy,zdz,zea,zeb,zec,zed,zdk,zee,zef,zeg,zeh,zei,zej,zek,zel,zem,zen,zeo,zep,zeq,zer,zes,zet,zeu,zev,zew,zex,zey,ya,yb,yc,yd,ye,yf,ts_int,ts_int64,ts_bool,ts_ints,ts_post,ts_posts,yg,yh,yi,yj,yk,yl,ym,ts_intsl,ts_int64s,ts_bools,ts_side,ts_sideb,ts_pints,ts_pbool,aPure,aLen,e3,e9,l3,l11]
            refine (hR.round cnt Wo C4 _ hcnt c4 hbase hWo ⟨hcnt, .pointer (some ⟨b10, 0, none⟩), .pointer (some ⟨bh, j, none⟩), by rw [hitem], by rw [hitem]; exact ⟨b10, 0, _, (.bool true), rfl, c10.1, c10.arow, rfl, cu⟩, by rw [hitem]; exact ⟨bh, j, rr, vs[j], rfl, hdh.1, r1, by rw [r2]; simp [hjv], t8'⟩⟩).mono ?_
            rintro res C' ⟨Wo', hF', hW', hcase⟩
            have hFr := cF.trans hF' fun b hb hc => (c7 b hc).1
            have nW : ∀ b, A1.next ≤ b → b ≤ b8 → ¬ Wo b := fun b h1 h2 hc => (c7 b hc).2.2.1.elim (fun h => by have := hn b h; omega) fun h => by omega
            have c5' := hF'.box c5 (nW b8 (by omega) (Nat.le_refl _))
            have c10' := hF'.box c10 fun hc => (c7 b10 hc).2.2.2 rfl
            have cu' := HP _ _ _ _ hF'.dat cu
            have c6'' := c6'.fr HP hF' ⟨nW b3 (by omega) (by omega), nW b4 (by omega) (by omega), nW b5 (by omega) (by omega)⟩
            have c7' : ∀ b, Wo' b → (W b ∨ E.next ≤ b) ∧ b < C'.next ∧ (W1 b ∨ b8 < b) ∧ b ≠ b10 := fun b hb => by
              obtain ⟨h1, h2 | h2⟩ := hW' b hb
              · exact ⟨(c7 b h2).1, h1, (c7 b h2).2.2⟩
              · have := cF.next
                exact ⟨.inr (by omega), h1, .inr (by omega), by omega⟩
            rcases hcase with ⟨rfl, hI'⟩ | ⟨rfl, hS'⟩
            · simp only [zaa,zab,zac,zad,zae,zaf,zag,zah,zai,zaj,zak,zal,zam,zan,zao,zap,zaq,zar,zas,zat,zau,zav,zaw,zax,zay,zaz,zba,aUn,zbb,zbc,zbd,zbe,zbf,zbg,zbh,zbi,zbj,zbk,zbl,zbm,zbn,flat,simple,zbo,zbp,zbq,zbr,zbs,zbt,zbu,zbv,zbw,zbx,zby,zbz,zca,zcb,zcc,zcd,zce,zcf,zcg,zch,zci,zcj,zck,zcl,zcm,zcn,zco,zcp,zcq,zcr,Nat.reduceEqDiff,Nat.reduceLT,Nat.reduceAdd,Nat.reduceSub,reduceIte,Kt_P,zcs,zct,zcu,zcv,zcw,zcx,zcy,zcz,zda,zdb,zdc,zdd,zde,zdf,zdg,zdh,zdi,zdj,zdk,reduceCtorEq,zdl,zdm,zdn,goInt,zdo,zdp,zdq,zdr,zds,zdt,zdu,zdv,zdw,zdx,zdy,zdz,zea,zeb,zec,zed,zdk,zee,zef,zeg,zeh,zei,zej,zek,zel,zem,zen,zeo,zep,zeq,zer,zes,zet,zeu,zev,zew,zex,zey,ya,yb,yc,yd,ye,yf,ts_int,ts_int64,ts_bool,ts_ints,ts_post,ts_posts,yg,yh,yi,yj,yk,yl,ym,ts_intsl,ts_int64s,ts_bools,ts_side,ts_sideb,ts_pints,ts_pbool,aPure,aLen]
              refine ⟨hFr, fun _ => ⟨j + 1, cnt + 1, Wo', ?_, by omega, hrest, hI', c5', c6'', fun b hb => ⟨(c7' b hb).1.imp id fun h => ⟨h, (c7' b hb).2.1⟩, (c7' b hb).2.1, (c7' b hb).2.2.1⟩, .inl g8⟩, fun h => by first | exact absurd rfl h | exact False.elim h⟩
              omega
            · simp only [zaa,zab,zac,zad,zae,zaf,zag,zah,zai,zaj,zak,zal,zam,zan,zao,zap,zaq,zar,zas,zat,zau,zav,zaw,zax,zay,zaz,zba,aUn,zbb,zbc,zbd,zbe,zbf,zbg,zbh,zbi,zbj,zbk,zbl,zbm,zbn,flat,simple,zbo,zbp,zbq,zbr,zbs,zbt,zbu,zbv,zbw,zbx,zby,zbz,zca,zcb,zcc,zcd,zce,zcf,zcg,zch,zci,zcj,zck,zcl,zcm,zcn,zco,zcp,zcq,zcr,Nat.reduceEqDiff,Nat.reduceLT,Nat.reduceAdd,Nat.reduceSub,reduceIte,Kt_P,zcs,zct,zcu,zcv,zcw,zcx,zcy,zcz,zda,zdb,zdc,zdd,zde,zdf,zdg,zdh,zdi,zdj,zdk,reduceCtorEq,zdl,zdm,zdn,goInt,zdo,zdp,zdq,zdr,zds,zdt,zdu,zdv,zdw,zdx,zdy,zdz,zea,zeb,zec,zed,zdk,zee,zef,zeg,zeh,zei,zej,zek,zel,zem,zen,zeo,zep,zeq,zer,zes,zet,zeu,zev,zew,zex,zey,ya,yb,yc,yd,ye,yf,ts_int,ts_int64,ts_bool,ts_ints,ts_post,ts_posts,yg,yh,yi,yj,yk,yl,ym,ts_intsl,ts_int64s,ts_bools,ts_side,ts_sideb,ts_pints,ts_pbool,aPure,aLen]
              refine ⟨hFr, fun h => (by cases h), fun _ => ⟨Wo', hS', fun b hb => ⟨(c7' b hb).1.imp id fun h => ⟨h, (c7' b hb).2.1⟩, (c7' b hb).2.1, (c7' b hb).2.2.1⟩⟩⟩
          · rw [mrg_gt (by omega), ← List.drop_eq_getElem_cons hj] at c3
            obtain ⟨hcnt, hitem, hrest⟩ := drop_head c3
            simp only [zaa,zab,zac,zad,zae,zaf,zag,zah,zai,zaj,zak,zal,zam,zan,zao,zap,zaq,zar,zas,zat,zau,zav,zaw,zax,zay,zaz,zba,aUn,zbb,zbc,zbd,zbe,zbf,zbg,zbh,zbi,zbj,zbk,zbl,zbm,zbn,flat,simple,zbo,zbp,zbq,zbr,zbs,zbt,zbu,zbv,zbw,zbx,zby,zbz,zca,zcb,zcc,zcd,zce,zcf,zcg,zch,zci,zcj,zck,zcl,zcm,zcn,zco,zcp,zcq,zcr,Nat.reduceEqDiff,Nat.reduceLT,Nat.reduceAdd,Nat.reduceSub,reduceIte,Kt_P,zcs,zct,zcu,zcv,zcw,zcx,zcy,zcz,zda,zdb,zdc,zdd,zde,zdf,zdg,zdh,zdi,zdj,zdk,reduceCtorEq,zdl,zdm,zdn,goInt,zdo,zdp,zdq,zdr,zds,zdt,zdu,zdv,zdw,zdx,zdy,zdz,zea,zeb,zec,zed,zdk,zee,zef,zeg,zeh,zei,zej,zek,zel,zem,zen,zeo,zep,zeq,zer,zes,zet,zeu,zev,zew,zex,zey,ya,yb,yc,yd,ye,yf,ts_int,ts_int64,ts_bool,ts_ints,ts_post,ts_posts,yg,yh,yi,yj,yk,yl,ym,ts_intsl,ts_int64s,ts_bools,ts_side,ts_sideb,ts_pints,ts_pbool,aPure,aLen]
            have l11 : aLoadVar Tryz.prog C2 240 (.pointer (some ⟨b11, 0, none⟩)) = some (.agg #[.pointer (some ⟨b10, 0, none⟩), .pointer none]) := hB2.loadAgg (o := 0) Tryz.underlying240 rfl ts_sideb (Nat.le_refl _)
            simp only [zaa,zab,zac,zad,zae,zaf,zag,zah,zai,zaj,zak,zal,zam,zan,zao,zap,zaq,zar,zas,zat,zau,zav,zaw,zax,zay,zaz,zba,aUn,zbb,zbc,zbd,zbe,zbf,zbg,zbh,zbi,zbj,zbk,zbl,zbm,zbn,flat,simple,zbo,zbp,zbq,zbr,zbs,zbt,zbu,zbv,zbw,zbx,zby,zbz,zca,zcb,zcc,zcd,zce,zcf,zcg,zch,zci,zcj,zck,zcl,zcm,zcn,zco,zcp,zcq,zcr,Nat.reduceEqDiff,Nat.reduceLT,Nat.reduceAdd,Nat.reduceSub,reduceIte,Kt_P,zcs,zct,zcu,zcv,zcw,zcx,zcy,zcz,zda,zdb,zdc,zdd,zde,zdf,zdg,zdh,zdi,zdj,zdk,reduceCtorEq,zdl,zdm,zdn,goInt,zdo,zdp,zdq,zdr,zds,zdt,zdu,zdv,zdw,zdx,zdy,zdz,zea,zeb,zec,zed,zdk,zee,zef,zeg,zeh,zei,zej,zek,zel,zem,zen,zeo,zep,zeq,zer,zes,zet,zeu,zev,zew,zex,zey,ya,yb,yc,yd,ye,yf,ts_int,ts_int64,ts_bool,ts_ints,ts_post,ts_posts,yg,yh,yi,yj,yk,yl,ym,ts_intsl,ts_int64s,ts_bools,ts_side,ts_sideb,ts_pints,ts_pbool,aPure,aLen,e3,e9,l3,l11]
            refine (hR.round cnt Wo C2 _ hcnt c4 hbase hWo ⟨hcnt, .pointer (some ⟨b10, 0, none⟩), .pointer none, by rw [hitem], by rw [hitem]; exact ⟨b10, 0, _, (.bool true), rfl, c10.1, c10.arow, rfl, cu⟩, by rw [hitem]; exact rfl⟩).mono ?_
            rintro res C' ⟨Wo', hF', hW', hcase⟩
            have hFr := cF.trans hF' fun b hb hc => (c7 b hc).1
            have nW : ∀ b, A1.next ≤ b → b ≤ b8 → ¬ Wo b := fun b h1 h2 hc => (c7 b hc).2.2.1.elim (fun h => by have := hn b h; omega) fun h => by omega
            have c5' := hF'.box c5 (nW b8 (by omega) (Nat.le_refl _))
            have c10' := hF'.box c10 fun hc => (c7 b10 hc).2.2.2 rfl
            have cu' := HP _ _ _ _ hF'.dat cu
            have c6'' := c6'.fr HP hF' ⟨nW b3 (by omega) (by omega), nW b4 (by omega) (by omega), nW b5 (by omega) (by omega)⟩
            have c7' : ∀ b, Wo' b → (W b ∨ E.next ≤ b) ∧ b < C'.next ∧ (W1 b ∨ b8 < b) ∧ b ≠ b10 := fun b hb => by
              obtain ⟨h1, h2 | h2⟩ := hW' b hb
              · exact ⟨(c7 b h2).1, h1, (c7 b h2).2.2⟩
              · have := cF.next
                exact ⟨.inr (by omega), h1, .inr (by omega), by omega⟩
            rcases hcase with ⟨rfl, hI'⟩ | ⟨rfl, hS'⟩
            · simp only [zaa,zab,zac,zad,zae,zaf,zag,zah,zai,zaj,zak,zal,zam,zan,zao,zap,zaq,zar,zas,zat,zau,zav,zaw,zax,zay,zaz,zba,aUn,zbb,zbc,zbd,zbe,zbf,zbg,zbh,zbi,zbj,zbk,zbl,zbm,zbn,flat,simple,zbo,zbp,zbq,zbr,zbs,zbt,zbu,zbv,zbw,zbx,zby,zbz,zca,zcb,zcc,zcd,zce,zcf,zcg,zch,zci,zcj,zck,zcl,zcm,zcn,zco,zcp,zcq,zcr,Nat.reduceEqDiff,Nat.reduceLT,Nat.reduceAdd,Nat.reduceSub,reduceIte,Kt_P,zcs,zct,zcu,zcv,zcw,zcx,zcy,zcz,zda,zdb,zdc,zdd,zde,zdf,zdg,zdh,zdi,zdj,zdk,reduceCtorEq,zdl,zdm,zdn,goInt,zdo,zdp,zdq,zdr,zds,zdt,zdu,zdv,zdw,zdx,zdy,zdz,zea,zeb,zec,zed,zdk,zee,zef,zeg,zeh,zei,zej,zek,zel,zem,zen,zeo,zep,zeq,zer,zes,zet,zeu,zev,zew,zex,zey,ya,yb,yc,yd,ye,yf,ts_int,ts_int64,ts_bool,ts_ints,ts_post,ts_posts,yg,yh,yi,yj,yk,yl,ym,ts_intsl,ts_int64s,ts_bools,ts_side,ts_sideb,ts_pints,ts_pbool,aPure,aLen]
              refine ⟨hFr, fun _ => ⟨j, cnt + 1, Wo', ?_, by omega, hrest, hI', c5', c6'', fun b hb => ⟨(c7' b hb).1.imp id fun h => ⟨h, (c7' b hb).2.1⟩, (c7' b hb).2.1, (c7' b hb).2.2.1⟩, .inl g8⟩, fun h => by first | exact absurd rfl h | exact False.elim h⟩
              omega
            · simp only [zaa,zab,zac,zad,zae,zaf,zag,zah,zai,zaj,zak,zal,zam,zan,zao,zap,zaq,zar,zas,zat,zau,zav,zaw,zax,zay,zaz,zba,aUn,zbb,zbc,zbd,zbe,zbf,zbg,zbh,zbi,zbj,zbk,zbl,zbm,zbn,flat,simple,zbo,zbp,zbq,zbr,zbs,zbt,zbu,zbv,zbw,zbx,zby,zbz,zca,zcb,zcc,zcd,zce,zcf,zcg,zch,zci,zcj,zck,zcl,zcm,zcn,zco,zcp,zcq,zcr,Nat.reduceEqDiff,Nat.reduceLT,Nat.reduceAdd,Nat.reduceSub,reduceIte,Kt_P,zcs,zct,zcu,zcv,zcw,zcx,zcy,zcz,zda,zdb,zdc,zdd,zde,zdf,zdg,zdh,zdi,zdj,zdk,reduceCtorEq,zdl,zdm,zdn,goInt,zdo,zdp,zdq,zdr,zds,zdt,zdu,zdv,zdw,zdx,zdy,zdz,zea,zeb,zec,zed,zdk,zee,zef,zeg,zeh,zei,zej,zek,zel,zem,zen,zeo,zep,zeq,zer,zes,zet,zeu,zev,zew,zex,zey,ya,yb,yc,yd,ye,yf,ts_int,ts_int64,ts_bool,ts_ints,ts_post,ts_posts,yg,yh,yi,yj,yk,yl,ym,ts_intsl,ts_int64s,ts_bools,ts_side,ts_sideb,ts_pints,ts_pbool,aPure,aLen]
              refine ⟨hFr, fun h => (by cases h), fun _ => ⟨Wo', hS', fun b hb => ⟨(c7' b hb).1.imp id fun h => ⟨h, (c7' b hb).2.1⟩, (c7' b hb).2.1, (c7' b hb).2.2.1⟩⟩⟩
      · simp only [zaa,zab,zac,zad,zae,zaf,zag,zah,zai,zaj,zak,zal,zam,zan,zao,zap,zaq,zar,zas,zat,zau,zav,zaw,zax,zay,zaz,zba,aUn,zbb,zbc,zbd,zbe,zbf,zbg,zbh,zbi,zbj,zbk,zbl,zbm,zbn,flat,simple,zbo,zbp,zbq,zbr,zbs,zbt,zbu,zbv,zbw,zbx,zby,zbz,zca,zcb,zcc,zcd,zce,zcf,zcg,zch,zci,zcj,zck,zcl,zcm,zcn,zco,zcp,zcq,zcr,Nat.reduceEqDiff,Nat.reduceLT,Nat.reduceAdd,Nat.reduceSub,reduceIte,Kt_P,zcs,zct,zcu,zcv,zcw,zcx,zcy,zcz,zda,zdb,zdc,zdd,zde,zdf,zdg,zdh,zdi,zdj,zdk,reduceCtorEq,zdl,zdm,zdn,goInt,zdo,zdp,zdq,zdr,zds,zdt,zdu,zdv,zdw,zdx,zdy,zdz,zea,zeb,zec,zed,zdk,zee,zef,zeg,zeh,zei,zej,zek,zel,zem,zen,zeo,zep,zeq,zer,zes,zet,zeu,zev,zew,zex,zey,ya,yb,yc,yd,ye,yf,ts_int,ts_int64,ts_bool,ts_ints,ts_post,ts_posts,yg,yh,yi,yj,yk,yl,ym,ts_intsl,ts_int64s,ts_bools,ts_side,ts_sideb,ts_pints,ts_pbool,aPure,aLen,e3,e4,e5,e8,e9,e10,l8,l4,hj,as_sideb]
        refine OpW_alloc_of ts_sideb tz_sideb rfl fun b11 C1 hb11 hm1 hF1 hB1 => ?_
        simp only [zaa,zab,zac,zad,zae,zaf,zag,zah,zai,zaj,zak,zal,zam,zan,zao,zap,zaq,zar,zas,zat,zau,zav,zaw,zax,zay,zaz,zba,aUn,zbb,zbc,zbd,zbe,zbf,zbg,zbh,zbi,zbj,zbk,zbl,zbm,zbn,flat,simple,zbo,zbp,zbq,zbr,zbs,zbt,zbu,zbv,zbw,zbx,zby,zbz,zca,zcb,zcc,zcd,zce,zcf,zcg,zch,zci,zcj,zck,zcl,zcm,zcn,zco,zcp,zcq,zcr,Nat.reduceEqDiff,Nat.reduceLT,Nat.reduceAdd,Nat.reduceSub,reduceIte,Kt_P,zcs,zct,zcu,zcv,zcw,zcx,zcy,zcz,zda,zdb,zdc,zdd,zde,zdf,zdg,zdh,zdi,zdj,zdk,reduceCtorEq,zdl,zdm,zdn,goInt,zdo,zdp,zdq,zdr,zds,zdt,zdu,zdv,zdw,zdx,zdy,zdz,zea,zeb,zec,zed,zdk,zee,zef,zeg,zeh,zei,zej,zek,zel,zem,zen,zeo,zep,zeq,zer,zes,zet,zeu,zev,zew,zex,zey,ya,yb,yc,yd,ye,yf,ts_int,ts_int64,ts_bool,ts_ints,ts_post,ts_posts,yg,yh,yi,yj,yk,yl,ym,ts_intsl,ts_int64s,ts_bools,ts_side,ts_sideb,ts_pints,ts_pbool,aPure,aLen]
        refine OpW_store_of (o := 0) hB1 ⟨rfl, rfl⟩ rfl ts_sideb (Nat.le_refl _) rfl fun C2 hm2 hF2 hB2 => ?_
        replace hB2 : Box C2 b11 240 [.pointer (some ⟨b10, 0, none⟩), .pointer none] := hB2
        have hX : Ext C C2 := Fr.trans hF1 hF2 fun b hb hc => by omega
        have HP := PTrue_dk
        have h811 : b8 < b11 := by have := c5.1; omega
        have h1011 : b10 < b11 := by have := c10.1; omega
        have hWo11 : ∀ b, Wo b → b < b11 := fun b hb => by have := (c7 b hb).2.1; omega
        replace c4 := hR.stab _ _ _ _ c4 (hX.keep (base := A1.next) fun _ _ h => h.elim)
        replace c5 := hX.box c5 fun h => h
        replace c10 := hX.box c10 fun h => h
        replace cu := HP _ _ _ _ hX.dat cu
        replace c6' := c6'.fr HP hX ⟨fun h => h, fun h => h, fun h => h⟩
        replace t3 := hX.box t3 fun h => h
        replace t4 := hX.box t4 fun h => h
        replace t5 := hX.box t5 fun h => h
        replace c7 : ∀ b, Wo b → (W b ∨ E.next ≤ b) ∧ b < C2.next ∧ (W1 b ∨ b8 < b) ∧ b ≠ b10 := fun b hb => ⟨(c7 b hb).1, by have := (c7 b hb).2.1; omega, (c7 b hb).2.2⟩
        replace cF := Fr.trans cF hX fun b _ h => False.elim h
        replace hWo : ∀ b, Wo b → b < C2.next ∧ ¬ (b = ba ∨ b = bb ∨ Rda b ∨ Rdb b) := fun b hb => ⟨(c7 b hb).2.1, (hWo b hb).2⟩
        replace hbase : A1.next ≤ C2.next := by omega
        have l8 := c5.load (P := Tryz.prog) (o := 0) (t := 3) Tryz.underlying3 rfl rfl
        have l3 := t3.load (P := Tryz.prog) (o := 0) (t := 236) Tryz.underlying236 rfl rfl
        have l4 := t4.load (P := Tryz.prog) (o := 0) (t := 59) Tryz.underlying59 rfl rfl
        have l5 := t5.load (P := Tryz.prog) (o := 0) (t := 237) Tryz.underlying237 rfl rfl
        simp only [zaa,zab,zac,zad,zae,zaf,zag,zah,zai,zaj,zak,zal,zam,zan,zao,zap,zaq,zar,zas,zat,zau,zav,zaw,zax,zay,zaz,zba,aUn,zbb,zbc,zbd,zbe,zbf,zbg,zbh,zbi,zbj,zbk,zbl,zbm,zbn,flat,simple,zbo,zbp,zbq,zbr,zbs,zbt,zbu,zbv,zbw,zbx,zby,zbz,zca,zcb,zcc,zcd,zce,zcf,zcg,zch,zci,zcj,zck,zcl,zcm,zcn,zco,zcp,zcq,zcr,Nat.reduceEqDiff,Nat.reduceLT,Nat.reduceAdd,Nat.reduceSub,reduceIte,Kt_P,zcs,zct,zcu,zcv,zcw,zcx,zcy,zcz,zda,zdb,zdc,zdd,zde,zdf,zdg,zdh,zdi,zdj,zdk,reduceCtorEq,zdl,zdm,zdn,goInt,zdo,zdp,zdq,zdr,zds,zdt,zdu,zdv,zdw,zdx,zdy,zdz,zea,zeb,zec,zed,zdk,zee,zef,zeg,zeh,zei,zej,zek,zel,zem,zen,zeo,zep,zeq,zer,zes,zet,zeu,zev,zew,zex,zey,ya,yb,yc,yd,ye,yf,ts_int,ts_int64,ts_bool,ts_ints,ts_post,ts_posts,yg,yh,yi,yj,yk,yl,ym,ts_intsl,ts_int64s,ts_bools,ts_side,ts_sideb,ts_pints,ts_pbool,aPure,aLen,e3,e4,e5,e8,e9,e10,l8,l4,hj]
        have hnil : bs.drop j = [] := List.drop_of_length_le (by omega)
        rw [hnil, mrg_nilR] at c3
        obtain ⟨hcnt, hitem, hrest⟩ := drop_head c3
        rw [← hnil] at hrest
        have l11 : aLoadVar Tryz.prog C2 240 (.pointer (some ⟨b11, 0, none⟩)) = some (.agg #[.pointer (some ⟨b10, 0, none⟩), .pointer none]) := hB2.loadAgg (o := 0) Tryz.underlying240 rfl ts_sideb (Nat.le_refl _)
        simp only [zaa,zab,zac,zad,zae,zaf,zag,zah,zai,zaj,zak,zal,zam,zan,zao,zap,zaq,zar,zas,zat,zau,zav,zaw,zax,zay,zaz,zba,aUn,zbb,zbc,zbd,zbe,zbf,zbg,zbh,zbi,zbj,zbk,zbl,zbm,zbn,flat,simple,zbo,zbp,zbq,zbr,zbs,zbt,zbu,zbv,zbw,zbx,zby,zbz,zca,zcb,zcc,zcd,zce,zcf,zcg,zch,zci,zcj,zck,zcl,zcm,zcn,zco,zcp,zcq,zcr,Nat.reduceEqDiff,Nat.reduceLT,Nat.reduceAdd,Nat.reduceSub,reduceIte,Kt_P,zcs,zct,zcu,zcv,zcw,zcx,zcy,zcz,zda,zdb,zdc,zdd,zde,zdf,zdg,zdh,zdi,zdj,zdk,reduceCtorEq,zdl,zdm,zdn,goInt,zdo,zdp,zdq,zdr,zds,zdt,zdu,zdv,zdw,zdx,zdy,zdz,zea,zeb,zec,zed,zdk,zee,zef,zeg,zeh,zei,zej,zek,zel,zem,zen,zeo,zep,zeq,zer,zes,zet,zeu,zev,zew,zex,zey,ya,yb,yc,yd,ye,yf,ts_int,ts_int64,ts_bool,ts_ints,ts_post,ts_posts,yg,yh,yi,yj,yk,yl,ym,ts_intsl,ts_int64s,ts_bools,ts_side,ts_sideb,ts_pints,ts_pbool,aPure,aLen,e3,e9,l3,l11]
        refine (hR.round cnt Wo C2 _ hcnt c4 hbase hWo ⟨hcnt, .pointer (some ⟨b10, 0, none⟩), .pointer none, by rw [hitem], by rw [hitem]; exact ⟨b10, 0, _, (.bool true), rfl, c10.1, c10.arow, rfl, cu⟩, by rw [hitem]; exact rfl⟩).mono ?_
        rintro res C' ⟨Wo', hF', hW', hcase⟩
        have hFr := cF.trans hF' fun b hb hc => (c7 b hc).1
        have nW : ∀ b, A1.next ≤ b → b ≤ b8 → ¬ Wo b := fun b h1 h2 hc => (c7 b hc).2.2.1.elim (fun h => by have := hn b h; omega) fun h => by omega
        have c5' := hF'.box c5 (nW b8 (by omega) (Nat.le_refl _))
        have c10' := hF'.box c10 fun hc => (c7 b10 hc).2.2.2 rfl
        have cu' := HP _ _ _ _ hF'.dat cu
        have c6'' := c6'.fr HP hF' ⟨nW b3 (by omega) (by omega), nW b4 (by omega) (by omega), nW b5 (by omega) (by omega)⟩
        have c7' : ∀ b, Wo' b → (W b ∨ E.next ≤ b) ∧ b < C'.next ∧ (W1 b ∨ b8 < b) ∧ b ≠ b10 := fun b hb => by
          obtain ⟨h1, h2 | h2⟩ := hW' b hb
          · exact ⟨(c7 b h2).1, h1, (c7 b h2).2.2⟩
          · have := cF.next
            exact ⟨.inr (by omega), h1, .inr (by omega), by omega⟩
        rcases hcase with ⟨rfl, hI'⟩ | ⟨rfl, hS'⟩
        · simp only [zaa,zab,zac,zad,zae,zaf,zag,zah,zai,zaj,zak,zal,zam,zan,zao,zap,zaq,zar,zas,zat,zau,zav,zaw,zax,zay,zaz,zba,aUn,zbb,zbc,zbd,zbe,zbf,zbg,zbh,zbi,zbj,zbk,zbl,zbm,zbn,flat,simple,zbo,zbp,zbq,zbr,zbs,zbt,zbu,zbv,zbw,zbx,zby,zbz,zca,zcb,zcc,zcd,zce,zcf,zcg,zch,zci,zcj,zck,zcl,zcm,zcn,zco,zcp,zcq,zcr,Nat.reduceEqDiff,Nat.reduceLT,Nat.reduceAdd,Nat.reduceSub,reduceIte,Kt_P,zcs,zct,zcu,zcv,zcw,zcx,zcy,zcz,zda,zdb,zdc,zdd,zde,zdf,zdg,zdh,zdi,zdj,zdk,reduceCtorEq,zdl,zdm,zdn,goInt,zdo,zdp,zdq,zdr,zds,zdt,zdu,zdv,zdw,zdx,zdy,zdz,zea,zeb,zec,zed,zdk,zee,zef,zeg,zeh,zei,zej,zek,zel,zem,zen,zeo,zep,zeq,zer,zes,zet,zeu,zev,zew,zex,zey,ya,yb,yc,yd,ye,yf,ts_int,ts_int64,ts_bool,ts_ints,ts_post,ts_posts,yg,yh,yi,yj,yk,yl,ym,ts_intsl,ts_int64s,ts_bools,ts_side,ts_sideb,ts_pints,ts_pbool,aPure,aLen]
          refine ⟨hFr, fun _ => ⟨j, cnt + 1, Wo', ?_, by omega, hrest, hI', c5', c6'', fun b hb => ⟨(c7' b hb).1.imp id fun h => ⟨h, (c7' b hb).2.1⟩, (c7' b hb).2.1, (c7' b hb).2.2.1⟩, .inl g8⟩, fun h => by first | exact absurd rfl h | exact False.elim h⟩
          omega
        · simp only [zaa,zab,zac,zad,zae,zaf,zag,zah,zai,zaj,zak,zal,zam,zan,zao,zap,zaq,zar,zas,zat,zau,zav,zaw,zax,zay,zaz,zba,aUn,zbb,zbc,zbd,zbe,zbf,zbg,zbh,zbi,zbj,zbk,zbl,zbm,zbn,flat,simple,zbo,zbp,zbq,zbr,zbs,zbt,zbu,zbv,zbw,zbx,zby,zbz,zca,zcb,zcc,zcd,zce,zcf,zcg,zch,zci,zcj,zck,zcl,zcm,zcn,zco,zcp,zcq,zcr,Nat.reduceEqDiff,Nat.reduceLT,Nat.reduceAdd,Nat.reduceSub,reduceIte,Kt_P,zcs,zct,zcu,zcv,zcw,zcx,zcy,zcz,zda,zdb,zdc,zdd,zde,zdf,zdg,zdh,zdi,zdj,zdk,reduceCtorEq,zdl,zdm,zdn,goInt,zdo,zdp,zdq,zdr,zds,zdt,zdu,zdv,zdw,zdx,zdy,zdz,zea,zeb,zec,zed,zdk,zee,zef,zeg,zeh,zei,zej,zek,zel,zem,zen,zeo,zep,zeq,zer,zes,zet,zeu,zev,zew,zex,zey,ya,yb,yc,yd,ye,yf,ts_int,ts_int64,ts_bool,ts_ints,ts_post,ts_posts,yg,yh,yi,yj,yk,yl,ym,ts_intsl,ts_int64s,ts_bools,ts_side,ts_sideb,ts_pints,ts_pbool,aPure,aLen]
          refine ⟨hFr, fun h => (by cases h), fun _ => ⟨Wo', hS', fun b hb => ⟨(c7' b hb).1.imp id fun h => ⟨h, (c7' b hb).2.1⟩, (c7' b hb).2.1, (c7' b hb).2.2.1⟩⟩⟩
    · rintro W D hlt2 hF2 hWD ⟨j0, cnt0, Wo0, g1, g2, g3, g4, g5, g6, g7, g8⟩
      simp only [zaa,zab,zac,zad,zae,zaf,zag,zah,zai,zaj,zak,zal,zam,zan,zao,zap,zaq,zar,zas,zat,zau,zav,zaw,zax,zay,zaz,zba,aUn,zbb,zbc,zbd,zbe,zbf,zbg,zbh,zbi,zbj,zbk,zbl,zbm,zbn,flat,simple,zbo,zbp,zbq,zbr,zbs,zbt,zbu,zbv,zbw,zbx,zby,zbz,zca,zcb,zcc,zcd,zce,zcf,zcg,zch,zci,zcj,zck,zcl,zcm,zcn,zco,zcp,zcq,zcr,Nat.reduceEqDiff,Nat.reduceLT,Nat.reduceAdd,Nat.reduceSub,reduceIte,Kt_P,zcs,zct,zcu,zcv,zcw,zcx,zcy,zcz,zda,zdb,zdc,zdd,zde,zdf,zdg,zdh,zdi,zdj,zdk,reduceCtorEq,zdl,zdm,zdn,goInt,zdo,zdp,zdq,zdr,zds,zdt,zdu,zdv,zdw,zdx,zdy,zdz,zea,zeb,zec,zed,zdk,zee,zef,zeg,zeh,zei,zej,zek,zel,zem,zen,zeo,zep,zeq,zer,zes,zet,zeu,zev,zew,zex,zey,ya,yb,yc,yd,ye,yf,ts_int,ts_int64,ts_bool,ts_ints,ts_post,ts_posts,yg,yh,yi,yj,yk,yl,ym,ts_intsl,ts_int64s,ts_bools,ts_side,ts_sideb,ts_pints,ts_pbool,aPure,aLen]
      have hAD2 : Fr W1 A1 D := Fr.trans hAD.fr hF2 fun b hb hc => hc.resolve_right (by omega)
      rw [List.drop_length] at g3
      refine Lop_inv (fun k e C => ∃ (j cnt : Nat) (Wo : Nat → Prop), (e 3 = .pointer (some ⟨b3, 0, none⟩) ∧ e 4 = .pointer (some ⟨b4, 0, none⟩) ∧ e 5 = .pointer (some ⟨b5, 0, none⟩) ∧ e 8 = .pointer (some ⟨b8, 0, none⟩)) ∧
          k = bs.length - j ∧ j ≤ bs.length ∧ cnt ≤ (mrg xs bs).length ∧ (mrg xs bs).drop cnt = mrg [] (bs.drop j) ∧ I cnt Wo C ∧ Box C b8 3 [.int .i64 j] ∧
          Tog PTrue 3 4 236 59 237 lp b3 b4 b5 bs C ∧ (∀ b, Wo b → b < C.next ∧ (W1 b ∨ b8 < b)) ∧ Fr W1 A1 C)
        ?_ (bs.length - j0) _ _ ⟨j0, cnt0, Wo0, by simp [put_at], rfl, g1, g2, g3, g4, g5, g6, fun b hb => (g7 b hb).2, hAD2⟩
      clear g1 g2 g3 g4 g5 g6 g7
      rintro k e C ⟨j, cnt, Wo, ⟨e3, e4, e5, e8⟩, rfl, c1, c2, c3, c4, c5, c6, c7, cF⟩
      have hGC := cF.next
      have c6' := c6
      obtain ⟨kv, hv, vs, t3, t4, t5, t6, t7, t8⟩ := c6
      obtain ⟨okk, hokk, _, dkk⟩ := t6.opened
      obtain ⟨okh, hokh, hlen, dkh⟩ := t7.opened
      subst hokk; subst hokh
      have l8 := c5.load (P := Tryz.prog) (o := 0) (t := 3) Tryz.underlying3 rfl rfl
      have l3 := t3.load (P := Tryz.prog) (o := 0) (t := 236) Tryz.underlying236 rfl rfl
      have l4 := t4.load (P := Tryz.prog) (o := 0) (t := 59) Tryz.underlying59 rfl rfl
      have l5 := t5.load (P := Tryz.prog) (o := 0) (t := 237) Tryz.underlying237 rfl rfl
      have hWo : ∀ b, Wo b → b < C.next ∧ ¬ (b = ba ∨ b = bb ∨ Rda b ∨ Rdb b) := fun b hb => ⟨(c7 b hb).1, (c7 b hb).2.elim (fun h => (hW b h).2) fun h hc => by
        have h1 := hba.1
        have h2 := hbb.1
        rcases hc with h3 | h3 | h3 | h3
        · omega
        · omega
        · have := ia.1 b h3; omega
        · have := ib.1 b h3; omega⟩
      simp only [zaa,zab,zac,zad,zae,zaf,zag,zah,zai,zaj,zak,zal,zam,zan,zao,zap,zaq,zar,zas,zat,zau,zav,zaw,zax,zay,zaz,zba,aUn,zbb,zbc,zbd,zbe,zbf,zbg,zbh,zbi,zbj,zbk,zbl,zbm,zbn,flat,simple,zbo,zbp,zbq,zbr,zbs,zbt,zbu,zbv,zbw,zbx,zby,zbz,zca,zcb,zcc,zcd,zce,zcf,zcg,zch,zci,zcj,zck,zcl,zcm,zcn,zco,zcp,zcq,zcr,Nat.reduceEqDiff,Nat.reduceLT,Nat.reduceAdd,Nat.reduceSub,reduceIte,Kt_P,zcs,zct,zcu,zcv,zcw,zcx,zcy,zcz,zda,zdb,zdc,zdd,zde,zdf,zdg,zdh,zdi,zdj,zdk,reduceCtorEq,zdl,zdm,zdn,goInt,zdo,zdp,zdq,zdr,zds,zdt,zdu,zdv,zdw,zdx,zdy,zdz,zea,zeb,zec,zed,zdk,zee,zef,zeg,zeh,zei,zej,zek,zel,zem,zen,zeo,zep,zeq,zer,zes,zet,zeu,zev,zew,zex,zey,ya,yb,yc,yd,ye,yf,ts_int,ts_int64,ts_bool,ts_ints,ts_post,ts_posts,yg,yh,yi,yj,yk,yl,ym,ts_intsl,ts_int64s,ts_bools,ts_side,ts_sideb,ts_pints,ts_pbool,aPure,aLen,e3,e4,e5,e8,l8,l4]
      refine Way_of (fun hj => ?_) (fun hj => ?_)
      · obtain ⟨bk, hbk, hdk⟩ := dkk j hj
        obtain ⟨bh, hbh, hdh⟩ := dkh j hj
        subst hbk; subst hbh
        have lkey := hdk.load (P := Tryz.prog) (o := j) (t := 3) Tryz.underlying3 rfl (v := .int .i64 bs[j].1) (by simp [ints, hj])
        rw [List.drop_eq_getElem_cons hj, mrg_nilL] at c3
        obtain ⟨hcnt, hitem, hrest⟩ := drop_head c3
        simp only [zaa,zab,zac,zad,zae,zaf,zag,zah,zai,zaj,zak,zal,zam,zan,zao,zap,zaq,zar,zas,zat,zau,zav,zaw,zax,zay,zaz,zba,aUn,zbb,zbc,zbd,zbe,zbf,zbg,zbh,zbi,zbj,zbk,zbl,zbm,zbn,flat,simple,zbo,zbp,zbq,zbr,zbs,zbt,zbu,zbv,zbw,zbx,zby,zbz,zca,zcb,zcc,zcd,zce,zcf,zcg,zch,zci,zcj,zck,zcl,zcm,zcn,zco,zcp,zcq,zcr,Nat.reduceEqDiff,Nat.reduceLT,Nat.reduceAdd,Nat.reduceSub,reduceIte,Kt_P,zcs,zct,zcu,zcv,zcw,zcx,zcy,zcz,zda,zdb,zdc,zdd,zde,zdf,zdg,zdh,zdi,zdj,zdk,reduceCtorEq,zdl,zdm,zdn,goInt,zdo,zdp,zdq,zdr,zds,zdt,zdu,zdv,zdw,zdx,zdy,zdz,zea,zeb,zec,zed,zdk,zee,zef,zeg,zeh,zei,zej,zek,zel,zem,zen,zeo,zep,zeq,zer,zes,zet,zeu,zev,zew,zex,zey,ya,yb,yc,yd,ye,yf,ts_int,ts_int64,ts_bool,ts_ints,ts_post,ts_posts,yg,yh,yi,yj,yk,yl,ym,ts_intsl,ts_int64s,ts_bools,ts_side,ts_sideb,ts_pints,ts_pbool,aPure,aLen]
        rw [Cod_draw (by kernel_rfl) (by kernel_rfl)]
        simp only [zaa,zab,zac,zad,zae,zaf,zag,zah,zai,zaj,zak,zal,zam,zan,zao,zap,zaq,zar,zas,zat,zau,zav,zaw,zax,zay,zaz,zba,aUn,zbb,zbc,zbd,zbe,zbf,zbg,zbh,zbi,zbj,zbk,zbl,zbm,zbn,flat,simple,zbo,zbp,zbq,zbr,zbs,zbt,zbu,zbv,zbw,zbx,zby,zbz,zca,zcb,zcc,zcd,zce,zcf,zcg,zch,zci,zcj,zck,zcl,zcm,zcn,zco,zcp,zcq,zcr,Nat.reduceEqDiff,Nat.reduceLT,Nat.reduceAdd,Nat.reduceSub,reduceIte,Kt_P,zcs,zct,zcu,zcv,zcw,zcx,zcy,zcz,zda,zdb,zdc,zdd,zde,zdf,zdg,zdh,zdi,zdj,zdk,reduceCtorEq,zdl,zdm,zdn,goInt,zdo,zdp,zdq,zdr,zds,zdt,zdu,zdv,zdw,zdx,zdy,zdz,zea,zeb,zec,zed,zdk,zee,zef,zeg,zeh,zei,zej,zek,zel,zem,zen,zeo,zep,zeq,zer,zes,zet,zeu,zev,zew,zex,zey,ya,yb,yc,yd,ye,yf,ts_int,ts_int64,ts_bool,ts_ints,ts_post,ts_posts,yg,yh,yi,yj,yk,yl,ym,ts_intsl,ts_int64s,ts_bools,ts_side,ts_sideb,ts_pints,ts_pbool,aPure,aLen,e3,e4,e5,e8,l8,l3,l4,l5,lkey,hj,bs_sideb]
        have hjv : j < vs.length := by omega
        refine (hR.round cnt Wo C _ hcnt c4 hGC hWo ⟨hcnt, .pointer none, .pointer (some ⟨bh, j, none⟩), by rw [hitem], by rw [hitem]; rfl, ?_⟩).mono ?_
        · rw [hitem]
          obtain ⟨rr, r1, r2, _⟩ := hdh.arow
          exact ⟨bh, j, rr, vs[j], rfl, hdh.1, r1, by rw [r2]; simp [hjv], t8 j hj hjv⟩
        · rintro res C' ⟨Wo', hF', hW', hcase⟩
          have HP := PTrue_dk
          have hFr : Fr W1 A1 C' := cF.trans hF' fun b hb hc => (c7 b hc).2.resolve_right (by omega)
          have nW : ∀ b, A1.next ≤ b → b ≤ b8 → ¬ Wo b := fun b h1 h2 hc => (c7 b hc).2.elim (fun h => by have := hn b h; omega) fun h => by omega
          have c5' := hF'.box c5 (nW b8 (by omega) (Nat.le_refl _))
          have c6'' := c6'.fr HP hF' ⟨nW b3 (by omega) (by omega), nW b4 (by omega) (by omega), nW b5 (by omega) (by omega)⟩
          have c7' : ∀ b, Wo' b → b < C'.next ∧ (W1 b ∨ b8 < b) := fun b hb => ⟨(hW' b hb).1, (hW' b hb).2.elim (fun h => (c7 b h).2) fun h => .inr (by have := c5.1; omega)⟩
          rcases hcase with ⟨rfl, hI'⟩ | ⟨rfl, hS'⟩
          · have l8' := c5'.load (P := Tryz.prog) (o := 0) (t := 3) Tryz.underlying3 rfl rfl
            simp only [zaa,zab,zac,zad,zae,zaf,zag,zah,zai,zaj,zak,zal,zam,zan,zao,zap,zaq,zar,zas,zat,zau,zav,zaw,zax,zay,zaz,zba,aUn,zbb,zbc,zbd,zbe,zbf,zbg,zbh,zbi,zbj,zbk,zbl,zbm,zbn,flat,simple,zbo,zbp,zbq,zbr,zbs,zbt,zbu,zbv,zbw,zbx,zby,zbz,zca,zcb,zcc,zcd,zce,zcf,zcg,zch,zci,zcj,zck,zcl,zcm,zcn,zco,zcp,zcq,zcr,Nat.reduceEqDiff,Nat.reduceLT,Nat.reduceAdd,Nat.reduceSub,reduceIte,Kt_P,zcs,zct,zcu,zcv,zcw,zcx,zcy,zcz,zda,zdb,zdc,zdd,zde,zdf,zdg,zdh,zdi,zdj,zdk,reduceCtorEq,zdl,zdm,zdn,goInt,zdo,zdp,zdq,zdr,zds,zdt,zdu,zdv,zdw,zdx,zdy,zdz,zea,zeb,zec,zed,zdk,zee,zef,zeg,zeh,zei,zej,zek,zel,zem,zen,zeo,zep,zeq,zer,zes,zet,zeu,zev,zew,zex,zey,ya,yb,yc,yd,ye,yf,ts_int,ts_int64,ts_bool,ts_ints,ts_post,ts_posts,yg,yh,yi,yj,yk,yl,ym,ts_intsl,ts_int64s,ts_bools,ts_side,ts_sideb,ts_pints,ts_pbool,aPure,aLen,e8,l8',wrap_succ hj (show (bs.length : Int) < _ by omega)]
            refine OpW_store_of (o := 0) c5' ⟨rfl, rfl⟩ (by simp only [zaa,zab,zac,zad,zae,zaf,zag,zah,zai,zaj,zak,zal,zam,zan,zao,zap,zaq,zar,zas,zat,zau,zav,zaw,zax,zay,zaz,zba,aUn,zbb,zbc,zbd,zbe,zbf,zbg,zbh,zbi,zbj,zbk,zbl,zbm,zbn,flat,simple,zbo,zbp,zbq,zbr,zbs,zbt,zbu,zbv,zbw,zbx,zby,zbz,zca,zcb,zcc,zcd,zce,zcf,zcg,zch,zci,zcj,zck,zcl,zcm,zcn,zco,zcp,zcq,zcr,Nat.reduceEqDiff,Nat.reduceLT,Nat.reduceAdd,Nat.reduceSub,reduceIte,Kt_P,zcs,zct,zcu,zcv,zcw,zcx,zcy,zcz,zda,zdb,zdc,zdd,zde,zdf,zdg,zdh,zdi,zdj,zdk,reduceCtorEq,zdl,zdm,zdn,goInt,zdo,zdp,zdq,zdr,zds,zdt,zdu,zdv,zdw,zdx,zdy,zdz,zea,zeb,zec,zed,zdk,zee,zef,zeg,zeh,zei,zej,zek,zel,zem,zen,zeo,zep,zeq,zer,zes,zet,zeu,zev,zew,zex,zey,ya,yb,yc,yd,ye,yf,ts_int,ts_int64,ts_bool,ts_ints,ts_post,ts_posts,yg,yh,yi,yj,yk,yl,ym,ts_intsl,ts_int64s,ts_bools,ts_side,ts_sideb,ts_pints,ts_pbool,aPure,aLen,e8]) ts_int (Nat.le_refl _) rfl fun C2 hm2 hF2 hB2 => ?_
            replace hB2 : Box C2 b8 3 [.int .i64 ((j + 1 : Nat) : Int)] := hB2
            simp only [zaa,zab,zac,zad,zae,zaf,zag,zah,zai,zaj,zak,zal,zam,zan,zao,zap,zaq,zar,zas,zat,zau,zav,zaw,zax,zay,zaz,zba,aUn,zbb,zbc,zbd,zbe,zbf,zbg,zbh,zbi,zbj,zbk,zbl,zbm,zbn,flat,simple,zbo,zbp,zbq,zbr,zbs,zbt,zbu,zbv,zbw,zbx,zby,zbz,zca,zcb,zcc,zcd,zce,zcf,zcg,zch,zci,zcj,zck,zcl,zcm,zcn,zco,zcp,zcq,zcr,Nat.reduceEqDiff,Nat.reduceLT,Nat.reduceAdd,Nat.reduceSub,reduceIte,Kt_P,zcs,zct,zcu,zcv,zcw,zcx,zcy,zcz,zda,zdb,zdc,zdd,zde,zdf,zdg,zdh,zdi,zdj,zdk,reduceCtorEq,zdl,zdm,zdn,goInt,zdo,zdp,zdq,zdr,zds,zdt,zdu,zdv,zdw,zdx,zdy,zdz,zea,zeb,zec,zed,zdk,zee,zef,zeg,zeh,zei,zej,zek,zel,zem,zen,zeo,zep,zeq,zer,zes,zet,zeu,zev,zew,zex,zey,ya,yb,yc,yd,ye,yf,ts_int,ts_int64,ts_bool,ts_ints,ts_post,ts_posts,yg,yh,yi,yj,yk,yl,ym,ts_intsl,ts_int64s,ts_bools,ts_side,ts_sideb,ts_pints,ts_pbool,aPure,aLen]
            have nb : ∀ b, Wo' b → b ≠ b8 := fun b hb h => (c7' b hb).2.elim (fun h1 => by have := hn b h1; omega) fun h1 => by omega
            exact ⟨bs.length - (j + 1), by omega, j + 1, cnt + 1, Wo', by simp [put_at, e3, e4, e5, e8], rfl, by omega, by omega, hrest, hR.stab _ _ _ _ hI' (hF2.keep fun b _ h => ⟨by omega, fun h1 => nb b h1 h⟩),
              hB2, c6''.fr HP hF2 ⟨by omega, by omega, by omega⟩, fun b hb => ⟨by have := (c7' b hb).1; omega, (c7' b hb).2⟩, hFr.trans hF2 fun b hb h => by omega⟩
          · simp only [zaa,zab,zac,zad,zae,zaf,zag,zah,zai,zaj,zak,zal,zam,zan,zao,zap,zaq,zar,zas,zat,zau,zav,zaw,zax,zay,zaz,zba,aUn,zbb,zbc,zbd,zbe,zbf,zbg,zbh,zbi,zbj,zbk,zbl,zbm,zbn,flat,simple,zbo,zbp,zbq,zbr,zbs,zbt,zbu,zbv,zbw,zbx,zby,zbz,zca,zcb,zcc,zcd,zce,zcf,zcg,zch,zci,zcj,zck,zcl,zcm,zcn,zco,zcp,zcq,zcr,Nat.reduceEqDiff,Nat.reduceLT,Nat.reduceAdd,Nat.reduceSub,reduceIte,Kt_P,zcs,zct,zcu,zcv,zcw,zcx,zcy,zcz,zda,zdb,zdc,zdd,zde,zdf,zdg,zdh,zdi,zdj,zdk,reduceCtorEq,zdl,zdm,zdn,goInt,zdo,zdp,zdq,zdr,zds,zdt,zdu,zdv,zdw,zdx,zdy,zdz,zea,zeb,zec,zed,zdk,zee,zef,zeg,zeh,zei,zej,zek,zel,zem,zen,zeo,zep,zeq,zer,zes,zet,zeu,zev,zew,zex,zey,ya,yb,yc,yd,ye,yf,ts_int,ts_int64,ts_bool,ts_ints,ts_post,ts_posts,yg,yh,yi,yj,yk,yl,ym,ts_intsl,ts_int64s,ts_bools,ts_side,ts_sideb,ts_pints,ts_pbool,aPure,aLen]
            exact hQ _ _ Wo' hFr (fun b hb => ⟨(c7' b hb).1, (c7' b hb).2.imp id fun h => by omega⟩) (.inr hS')
      · simp only [zaa,zab,zac,zad,zae,zaf,zag,zah,zai,zaj,zak,zal,zam,zan,zao,zap,zaq,zar,zas,zat,zau,zav,zaw,zax,zay,zaz,zba,aUn,zbb,zbc,zbd,zbe,zbf,zbg,zbh,zbi,zbj,zbk,zbl,zbm,zbn,flat,simple,zbo,zbp,zbq,zbr,zbs,zbt,zbu,zbv,zbw,zbx,zby,zbz,zca,zcb,zcc,zcd,zce,zcf,zcg,zch,zci,zcj,zck,zcl,zcm,zcn,zco,zcp,zcq,zcr,Nat.reduceEqDiff,Nat.reduceLT,Nat.reduceAdd,Nat.reduceSub,reduceIte,Kt_P,zcs,zct,zcu,zcv,zcw,zcx,zcy,zcz,zda,zdb,zdc,zdd,zde,zdf,zdg,zdh,zdi,zdj,zdk,reduceCtorEq,zdl,zdm,zdn,goInt,zdo,zdp,zdq,zdr,zds,zdt,zdu,zdv,zdw,zdx,zdy,zdz,zea,zeb,zec,zed,zdk,zee,zef,zeg,zeh,zei,zej,zek,zel,zem,zen,zeo,zep,zeq,zer,zes,zet,zeu,zev,zew,zex,zey,ya,yb,yc,yd,ye,yf,ts_int,ts_int64,ts_bool,ts_ints,ts_post,ts_posts,yg,yh,yi,yj,yk,yl,ym,ts_intsl,ts_int64s,ts_bools,ts_side,ts_sideb,ts_pints,ts_pbool,aPure,aLen]
        have hnil : bs.drop j = [] := List.drop_of_length_le (by omega)
        rw [hnil, mrg_nil] at c3
        have : (mrg xs bs).length ≤ cnt := List.drop_eq_nil_iff.1 c3
        have hc : cnt = (mrg xs bs).length := by omega
        subst hc
        exact hQ _ _ Wo cF (fun b hb => ⟨(c7 b hb).1, (c7 b hb).2.imp id fun h => by omega⟩) (.inl c4)
    · rintro x W D hx hlt2 hF2 hWD ⟨rfl, Wo, g1, g2⟩
      simp only [zaa,zab,zac,zad,zae,zaf,zag,zah,zai,zaj,zak,zal,zam,zan,zao,zap,zaq,zar,zas,zat,zau,zav,zaw,zax,zay,zaz,zba,aUn,zbb,zbc,zbd,zbe,zbf,zbg,zbh,zbi,zbj,zbk,zbl,zbm,zbn,flat,simple,zbo,zbp,zbq,zbr,zbs,zbt,zbu,zbv,zbw,zbx,zby,zbz,zca,zcb,zcc,zcd,zce,zcf,zcg,zch,zci,zcj,zck,zcl,zcm,zcn,zco,zcp,zcq,zcr,Nat.reduceEqDiff,Nat.reduceLT,Nat.reduceAdd,Nat.reduceSub,reduceIte,Kt_P,zcs,zct,zcu,zcv,zcw,zcx,zcy,zcz,zda,zdb,zdc,zdd,zde,zdf,zdg,zdh,zdi,zdj,zdk,reduceCtorEq,zdl,zdm,zdn,goInt,zdo,zdp,zdq,zdr,zds,zdt,zdu,zdv,zdw,zdx,zdy,zdz,zea,zeb,zec,zed,zdk,zee,zef,zeg,zeh,zei,zej,zek,zel,zem,zen,zeo,zep,zeq,zer,zes,zet,zeu,zev,zew,zex,zey,ya,yb,yc,yd,ye,yf,ts_int,ts_int64,ts_bool,ts_ints,ts_post,ts_posts,yg,yh,yi,yj,yk,yl,ym,ts_intsl,ts_int64s,ts_bools,ts_side,ts_sideb,ts_pints,ts_pbool,aPure,aLen]
      refine hQ _ _ Wo ?_ (fun b hb => ⟨(g2 b hb).2.1, (g2 b hb).2.2.imp id fun h => by omega⟩) (.inr g1)
      exact Fr.trans hAD.fr hF2 fun b hb hc => hc.resolve_right (by omega)
end Go.Sh
