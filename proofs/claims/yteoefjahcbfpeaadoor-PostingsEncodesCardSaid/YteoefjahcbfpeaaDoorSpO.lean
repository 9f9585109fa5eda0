/- What single functions do, part 14: numbers as bytes, numbers with a sign. -/
import Derived.Test.YteoefjahcbfpeaaDoorSpN
import Derived.Test.YteoefjahcbfpeaaDoorSkC
namespace Go.Sh
open Go Go.Proofs
set_option linter.unusedSimpArgs false
set_option maxRecDepth 4000
set_option maxHeartbeats 1000000

theorem fn_uint : Kt.funcs 22 = some Tryd.f22 := by kernel_rfl
theorem fn_int : Kt.funcs 23 = some Tryd.f23 := by kernel_rfl
theorem fn_rdi : Kt.funcs 78 = some Tryd.f78 := by kernel_rfl
theorem tz_arr : tzero Tryd.prog 79 = some (.agg #[.int .u8 0, .int .u8 0, .int .u8 0, .int .u8 0, .int .u8 0, .int .u8 0, .int .u8 0, .int .u8 0, .int .u8 0, .int .u8 0]) := by kernel_rfl
theorem u8z (n : Nat) : u8s (List.replicate n 0) = List.replicate n (.int .u8 0) := by simp [u8s]
theorem zeros10 : ([.int .u8 0, .int .u8 0, .int .u8 0, .int .u8 0, .int .u8 0, .int .u8 0, .int .u8 0, .int .u8 0, .int .u8 0, .int .u8 0] : List Value) = u8s (List.replicate 10 0) := rfl

theorem lputs_one (pre : List UInt8) (n : Nat) (b : UInt8) : lputs (u8s (pre ++ List.replicate (n + 1) 0)) pre.length [.int .u8 b.toNat] = u8s ((pre ++ [b]) ++ List.replicate n 0) := by
  refine List.ext_getElem? fun i => ?_
  rw [lputs_get _ _ _ _ (by simp [u8s])]
  simp only [u8s,List.length_singleton,List.getElem?_map]
  by_cases h : i < pre.length
  · rw [if_neg (by omega), List.getElem?_append_left h, List.getElem?_append_left (by simp; omega), List.getElem?_append_left h]
  · by_cases h1 : i = pre.length
    · subst h1
      rw [if_pos (by omega), List.getElem?_append_left (by simp), List.getElem?_append_right (Nat.le_refl _)]
      simp
    · rw [if_neg (by omega), List.getElem?_append_right (by omega), List.getElem?_append_right (by simp; omega)]
      simp only [List.length_append,List.length_singleton,List.getElem?_replicate]
      congr 1
      by_cases h2 : i - pre.length < n + 1
      · rw [if_pos h2, if_pos (by omega)]
      · rw [if_neg h2, if_neg (by omega)]

theorem uint_ok (A : AHeap) (n : Nat) (hn : n < 18446744073709551616) (Q : Value → AHeap → Prop) (hq : ∀ s A', Ext A A' → bl s = uintL n → Q (.string s) A') : Cal Kt 22 #[.int .u64 n] A Q := by
  refine Cal_of (nt := 26) (rs := [.tmp 2]) fn_uint rfl rfl rfl (Nat.le_of_ble_eq_true rfl) ?_
  simp only [zaa,zab,zac,zad,zae,zaf,zag,zah,zai,zaj,zak,zal,zam,zan,zao,zap,zaq,zar,zas,zat,zau,zav,zaw,zax,zay,zaz,zba,aUn,zbb,zbc,zbd,zbe,zbf,zbg,zbh,zbi,zbj,zbk,zbl,zbm,zbn,flat,simple,zbo,zbp,zbq,zbr,zbs,zbt,zbu,zbv,zbw,zbx,zby,zbz,zca,zcb,zcc,zcd,zce,zcf,zcg,zch,zci,zcj,zck,zcl,zcm,zcn,zco,zcp,zcq,zcr,Nat.reduceEqDiff,Nat.reduceLT,Nat.reduceAdd,Nat.reduceSub,reduceIte,Kt_P,zcs,zct,zcu,zcv,zcw,zcx,zcy,zcz,zda,zdb,zdc,zdd,zde,zdf,zdg,zdh,zdi,zdj,zdk,reduceCtorEq,zdl,zdm,zdn,goInt,zdo,zdp,zdq,zdr,zds,zdt,zdu,zdv,zdw,zdx,zdy,zdz,zea,zeb,zec,zed,zdk,zee,zef,zeg,zeh,zei,zej,zek,zel,zem,zen,zeo,zep,zeq,zer,zes,zet,zeu,zev,zew,zex,zey,ya,yb,yc,yd,ye,yf,ts_int,ts_int64,ts_bool,ts_ints,ts_post,ts_posts,yg,yh,yi,yj,yk,yl,ym,ts_intsl,ts_int64s,ts_bools,ts_side,ts_sideb,ts_pints,ts_pbool,aPure,aLen,ywa,ywb,ywc,ywd,ywe,ywf,ywg,ywh,ywi,ywj,ywk,ywl,ywm,ywn,ywo,ts_string,ts_u8,ts_u64,ts_error,ts_bytes,ts_arr,ts_reader,ts_pbuilder,ts_builder,cv_64_8,cv_8_64,cv_64_i64,cv_i64_64,cv_64_int,cv_int_64,errV_0]
  refine OpW_alloc_of ts_arr tz_arr rfl fun b3 A1 hb3 hm1 hE1 hB1 => ?_
  replace hB1 : Box A1 b3 79 (u8s (List.replicate 10 0)) := hB1
  simp only [zaa,zab,zac,zad,zae,zaf,zag,zah,zai,zaj,zak,zal,zam,zan,zao,zap,zaq,zar,zas,zat,zau,zav,zaw,zax,zay,zaz,zba,aUn,zbb,zbc,zbd,zbe,zbf,zbg,zbh,zbi,zbj,zbk,zbl,zbm,zbn,flat,simple,zbo,zbp,zbq,zbr,zbs,zbt,zbu,zbv,zbw,zbx,zby,zbz,zca,zcb,zcc,zcd,zce,zcf,zcg,zch,zci,zcj,zck,zcl,zcm,zcn,zco,zcp,zcq,zcr,Nat.reduceEqDiff,Nat.reduceLT,Nat.reduceAdd,Nat.reduceSub,reduceIte,Kt_P,zcs,zct,zcu,zcv,zcw,zcx,zcy,zcz,zda,zdb,zdc,zdd,zde,zdf,zdg,zdh,zdi,zdj,zdk,reduceCtorEq,zdl,zdm,zdn,goInt,zdo,zdp,zdq,zdr,zds,zdt,zdu,zdv,zdw,zdx,zdy,zdz,zea,zeb,zec,zed,zdk,zee,zef,zeg,zeh,zei,zej,zek,zel,zem,zen,zeo,zep,zeq,zer,zes,zet,zeu,zev,zew,zex,zey,ya,yb,yc,yd,ye,yf,ts_int,ts_int64,ts_bool,ts_ints,ts_post,ts_posts,yg,yh,yi,yj,yk,yl,ym,ts_intsl,ts_int64s,ts_bools,ts_side,ts_sideb,ts_pints,ts_pbool,aPure,aLen,ywa,ywb,ywc,ywd,ywe,ywf,ywg,ywh,ywi,ywj,ywk,ywl,ywm,ywn,ywo,ts_string,ts_u8,ts_u64,ts_error,ts_bytes,ts_arr,ts_reader,ts_pbuilder,ts_builder,cv_64_8,cv_8_64,cv_64_i64,cv_i64_64,cv_64_int,cv_int_64,errV_0]
  refine Lop_inv (fun k e G => ∃ (pre : List UInt8) (m : Nat), (e 0 = .int .u64 m ∧ e 3 = .pointer (some ⟨b3, 0, none⟩) ∧ e 4 = .int .i64 pre.length) ∧ k = 10 - pre.length ∧ Ext A G ∧ Box G b3 79 (u8s (pre ++ List.replicate (10 - pre.length) 0)) ∧
      uintL n = pre ++ uintL m ∧ m * 2 ^ (7 * pre.length) < 18446744073709551616 ∧ (0 < pre.length → 0 < m)) ?_ 10 _ _ ⟨[], n, by simp [put_at, argEnv], by simp, hE1, by simpa using hB1, by simp, by simpa using hn, by simp⟩
  rintro k e G ⟨pre, m, ⟨e0, e3, e4⟩, rfl, hE, hB, hu, hm, hm0⟩
  have hlt10 : pre.length < 10 := by
    rcases Nat.lt_or_ge pre.length 10 with h | h
    · exact h
    · have h1 : 2 ^ 70 ≤ 2 ^ (7 * pre.length) := Nat.pow_le_pow_right (by omega) (by omega)
      have h2 : 1 * 2 ^ (7 * pre.length) ≤ m * 2 ^ (7 * pre.length) := Nat.mul_le_mul_right _ (hm0 (by omega))
      omega
  have hm64 : m < 18446744073709551616 := by
    have h1 : m * 1 ≤ m * 2 ^ (7 * pre.length) := Nat.mul_le_mul_left _ (Nat.one_le_two_pow)
    omega
  have hsucc : IntKind.i64.wrap ((pre.length : Int) + 1) = ((pre.length + 1 : Nat) : Int) := by rw [wrap_i64 (by omega)]; omega
  have hix : ((pre.length : Int) < 10) = True := eq_true (by omega)
  obtain ⟨r, hr⟩ : ∃ r, 10 - pre.length = r + 1 := ⟨10 - pre.length - 1, by omega⟩
  simp only [zaa,zab,zac,zad,zae,zaf,zag,zah,zai,zaj,zak,zal,zam,zan,zao,zap,zaq,zar,zas,zat,zau,zav,zaw,zax,zay,zaz,zba,aUn,zbb,zbc,zbd,zbe,zbf,zbg,zbh,zbi,zbj,zbk,zbl,zbm,zbn,flat,simple,zbo,zbp,zbq,zbr,zbs,zbt,zbu,zbv,zbw,zbx,zby,zbz,zca,zcb,zcc,zcd,zce,zcf,zcg,zch,zci,zcj,zck,zcl,zcm,zcn,zco,zcp,zcq,zcr,Nat.reduceEqDiff,Nat.reduceLT,Nat.reduceAdd,Nat.reduceSub,reduceIte,Kt_P,zcs,zct,zcu,zcv,zcw,zcx,zcy,zcz,zda,zdb,zdc,zdd,zde,zdf,zdg,zdh,zdi,zdj,zdk,reduceCtorEq,zdl,zdm,zdn,goInt,zdo,zdp,zdq,zdr,zds,zdt,zdu,zdv,zdw,zdx,zdy,zdz,zea,zeb,zec,zed,zdk,zee,zef,zeg,zeh,zei,zej,zek,zel,zem,zen,zeo,zep,zeq,zer,zes,zet,zeu,zev,zew,zex,zey,ya,yb,yc,yd,ye,yf,ts_int,ts_int64,ts_bool,ts_ints,ts_post,ts_posts,yg,yh,yi,yj,yk,yl,ym,ts_intsl,ts_int64s,ts_bools,ts_side,ts_sideb,ts_pints,ts_pbool,aPure,aLen,ywa,ywb,ywc,ywd,ywe,ywf,ywg,ywh,ywi,ywj,ywk,ywl,ywm,ywn,ywo,ts_string,ts_u8,ts_u64,ts_error,ts_bytes,ts_arr,ts_reader,ts_pbuilder,ts_builder,cv_64_8,cv_8_64,cv_64_i64,cv_i64_64,cv_64_int,cv_int_64,errV_0,e0,e3,e4]
  refine Way_of (fun hge => ?_) (fun hlt => ?_)
  · have hcv : IntKind.u8.wrap (m : Int) = ((m % 256 : Nat) : Int) := by rw [wrap_u8]; omega
    have hor : IntKind.u8.wrap (((BitVec.ofInt IntKind.u8.bits ((m % 256 : Nat) : Int) ||| BitVec.ofInt IntKind.u8.bits 128).toNat : Nat) : Int) = ((m % 128 + 128 : Nat) : Int) := by
      have := bits_high ⟨m % 256, by omega⟩
      rw [show (BitVec.ofInt IntKind.u8.bits ((m % 256 : Nat) : Int) ||| BitVec.ofInt IntKind.u8.bits 128).toNat = m % 256 % 128 + 128 from this, wrap_u8]
      omega
    simp only [zaa,zab,zac,zad,zae,zaf,zag,zah,zai,zaj,zak,zal,zam,zan,zao,zap,zaq,zar,zas,zat,zau,zav,zaw,zax,zay,zaz,zba,aUn,zbb,zbc,zbd,zbe,zbf,zbg,zbh,zbi,zbj,zbk,zbl,zbm,zbn,flat,simple,zbo,zbp,zbq,zbr,zbs,zbt,zbu,zbv,zbw,zbx,zby,zbz,zca,zcb,zcc,zcd,zce,zcf,zcg,zch,zci,zcj,zck,zcl,zcm,zcn,zco,zcp,zcq,zcr,Nat.reduceEqDiff,Nat.reduceLT,Nat.reduceAdd,Nat.reduceSub,reduceIte,Kt_P,zcs,zct,zcu,zcv,zcw,zcx,zcy,zcz,zda,zdb,zdc,zdd,zde,zdf,zdg,zdh,zdi,zdj,zdk,reduceCtorEq,zdl,zdm,zdn,goInt,zdo,zdp,zdq,zdr,zds,zdt,zdu,zdv,zdw,zdx,zdy,zdz,zea,zeb,zec,zed,zdk,zee,zef,zeg,zeh,zei,zej,zek,zel,zem,zen,zeo,zep,zeq,zer,zes,zet,zeu,zev,zew,zex,zey,ya,yb,yc,yd,ye,yf,ts_int,ts_int64,ts_bool,ts_ints,ts_post,ts_posts,yg,yh,yi,yj,yk,yl,ym,ts_intsl,ts_int64s,ts_bools,ts_side,ts_sideb,ts_pints,ts_pbool,aPure,aLen,ywa,ywb,ywc,ywd,ywe,ywf,ywg,ywh,ywi,ywj,ywk,ywl,ywm,ywn,ywo,ts_string,ts_u8,ts_u64,ts_error,ts_bytes,ts_arr,ts_reader,ts_pbuilder,ts_builder,cv_64_8,cv_8_64,cv_64_i64,cv_i64_64,cv_64_int,cv_int_64,errV_0,e0,e3,e4,hcv,aBin_or,hor,hlt10]
    have hbt : (UInt8.ofNat (m % 128 + 128)).toNat = m % 128 + 128 := by simp; omega
    have hl1 := lputs_one pre r (UInt8.ofNat (m % 128 + 128))
    rw [hbt] at hl1
    refine OpW_store_of (o := pre.length) hB ⟨rfl, rfl⟩ (by simp only [zaa,zab,zac,zad,zae,zaf,zag,zah,zai,zaj,zak,zal,zam,zan,zao,zap,zaq,zar,zas,zat,zau,zav,zaw,zax,zay,zaz,zba,aUn,zbb,zbc,zbd,zbe,zbf,zbg,zbh,zbi,zbj,zbk,zbl,zbm,zbn,flat,simple,zbo,zbp,zbq,zbr,zbs,zbt,zbu,zbv,zbw,zbx,zby,zbz,zca,zcb,zcc,zcd,zce,zcf,zcg,zch,zci,zcj,zck,zcl,zcm,zcn,zco,zcp,zcq,zcr,Nat.reduceEqDiff,Nat.reduceLT,Nat.reduceAdd,Nat.reduceSub,reduceIte,Kt_P,zcs,zct,zcu,zcv,zcw,zcx,zcy,zcz,zda,zdb,zdc,zdd,zde,zdf,zdg,zdh,zdi,zdj,zdk,reduceCtorEq,zdl,zdm,zdn,goInt,zdo,zdp,zdq,zdr,zds,zdt,zdu,zdv,zdw,zdx,zdy,zdz,zea,zeb,zec,zed,zdk,zee,zef,zeg,zeh,zei,zej,zek,zel,zem,zen,zeo,zep,zeq,zer,zes,zet,zeu,zev,zew,zex,zey,ya,yb,yc,yd,ye,yf,ts_int,ts_int64,ts_bool,ts_ints,ts_post,ts_posts,yg,yh,yi,yj,yk,yl,ym,ts_intsl,ts_int64s,ts_bools,ts_side,ts_sideb,ts_pints,ts_pbool,aPure,aLen,ywa,ywb,ywc,ywd,ywe,ywf,ywg,ywh,ywi,ywj,ywk,ywl,ywm,ywn,ywo,ts_string,ts_u8,ts_u64,ts_error,ts_bytes,ts_arr,ts_reader,ts_pbuilder,ts_builder,cv_64_8,cv_8_64,cv_64_i64,cv_i64_64,cv_64_int,cv_int_64,errV_0]) ts_u8 (by show pre.length + 1 ≤ _; rw [u8s_len]; simp; omega) rfl fun G2 hm2 hF2 hB2 => ?_
    have hB3 : Box G2 b3 79 (u8s ((pre ++ [UInt8.ofNat (m % 128 + 128)]) ++ List.replicate r 0)) := by
      rw [← hl1, ← hr]
      exact hB2
    have hshr : ∀ c : Bool, aBin Tryd.prog .shr 57 c (.int .u64 (m : Int)) (.int .u64 7) = some (.int .u64 ((m / 128 : Nat) : Int)) := by
      intro c
      simp [aBin, intShift, IntKind.bits, Int.fdiv_eq_ediv]
    simp only [zaa,zab,zac,zad,zae,zaf,zag,zah,zai,zaj,zak,zal,zam,zan,zao,zap,zaq,zar,zas,zat,zau,zav,zaw,zax,zay,zaz,zba,aUn,zbb,zbc,zbd,zbe,zbf,zbg,zbh,zbi,zbj,zbk,zbl,zbm,zbn,flat,simple,zbo,zbp,zbq,zbr,zbs,zbt,zbu,zbv,zbw,zbx,zby,zbz,zca,zcb,zcc,zcd,zce,zcf,zcg,zch,zci,zcj,zck,zcl,zcm,zcn,zco,zcp,zcq,zcr,Nat.reduceEqDiff,Nat.reduceLT,Nat.reduceAdd,Nat.reduceSub,reduceIte,Kt_P,zcs,zct,zcu,zcv,zcw,zcx,zcy,zcz,zda,zdb,zdc,zdd,zde,zdf,zdg,zdh,zdi,zdj,zdk,reduceCtorEq,zdl,zdm,zdn,goInt,zdo,zdp,zdq,zdr,zds,zdt,zdu,zdv,zdw,zdx,zdy,zdz,zea,zeb,zec,zed,zdk,zee,zef,zeg,zeh,zei,zej,zek,zel,zem,zen,zeo,zep,zeq,zer,zes,zet,zeu,zev,zew,zex,zey,ya,yb,yc,yd,ye,yf,ts_int,ts_int64,ts_bool,ts_ints,ts_post,ts_posts,yg,yh,yi,yj,yk,yl,ym,ts_intsl,ts_int64s,ts_bools,ts_side,ts_sideb,ts_pints,ts_pbool,aPure,aLen,ywa,ywb,ywc,ywd,ywe,ywf,ywg,ywh,ywi,ywj,ywk,ywl,ywm,ywn,ywo,ts_string,ts_u8,ts_u64,ts_error,ts_bytes,ts_arr,ts_reader,ts_pbuilder,ts_builder,cv_64_8,cv_8_64,cv_64_i64,cv_i64_64,cv_64_int,cv_int_64,errV_0,e0,e4,hshr,hsucc]
    have hge' : 128 ≤ m := by omega
    refine ⟨10 - (pre.length + 1), by omega, pre ++ [UInt8.ofNat (m % 128 + 128)], m / 128, by simp [put_at, e3], by simp, ?_, ?_, ?_, ?_, fun _ => by omega⟩
    · exact Fr.trans hE hF2 fun b hb h => by omega
    · simp only [List.length_append,List.length_singleton]
      rw [show 10 - (pre.length + 1) = r by omega]
      exact hB3
    · rw [hu, List.append_assoc]
      congr 1
      conv => lhs; rw [uintL]
      rw [dif_neg (by omega)]
      rfl
    · simp only [List.length_append,List.length_singleton]
      have h1 : m / 128 * 2 ^ (7 * (pre.length + 1)) ≤ m * 2 ^ (7 * pre.length) := by
        rw [show 7 * (pre.length + 1) = 7 + 7 * pre.length by omega, Nat.pow_add, ← Nat.mul_assoc]
        exact Nat.mul_le_mul_right _ (by have := Nat.div_mul_le_self m 128; omega)
      omega
  · have hlt' : m < 128 := by omega
    have hcv : IntKind.u8.wrap (m : Int) = (m : Int) := by rw [wrap_u8]; omega
    simp only [zaa,zab,zac,zad,zae,zaf,zag,zah,zai,zaj,zak,zal,zam,zan,zao,zap,zaq,zar,zas,zat,zau,zav,zaw,zax,zay,zaz,zba,aUn,zbb,zbc,zbd,zbe,zbf,zbg,zbh,zbi,zbj,zbk,zbl,zbm,zbn,flat,simple,zbo,zbp,zbq,zbr,zbs,zbt,zbu,zbv,zbw,zbx,zby,zbz,zca,zcb,zcc,zcd,zce,zcf,zcg,zch,zci,zcj,zck,zcl,zcm,zcn,zco,zcp,zcq,zcr,Nat.reduceEqDiff,Nat.reduceLT,Nat.reduceAdd,Nat.reduceSub,reduceIte,Kt_P,zcs,zct,zcu,zcv,zcw,zcx,zcy,zcz,zda,zdb,zdc,zdd,zde,zdf,zdg,zdh,zdi,zdj,zdk,reduceCtorEq,zdl,zdm,zdn,goInt,zdo,zdp,zdq,zdr,zds,zdt,zdu,zdv,zdw,zdx,zdy,zdz,zea,zeb,zec,zed,zdk,zee,zef,zeg,zeh,zei,zej,zek,zel,zem,zen,zeo,zep,zeq,zer,zes,zet,zeu,zev,zew,zex,zey,ya,yb,yc,yd,ye,yf,ts_int,ts_int64,ts_bool,ts_ints,ts_post,ts_posts,yg,yh,yi,yj,yk,yl,ym,ts_intsl,ts_int64s,ts_bools,ts_side,ts_sideb,ts_pints,ts_pbool,aPure,aLen,ywa,ywb,ywc,ywd,ywe,ywf,ywg,ywh,ywi,ywj,ywk,ywl,ywm,ywn,ywo,ts_string,ts_u8,ts_u64,ts_error,ts_bytes,ts_arr,ts_reader,ts_pbuilder,ts_builder,cv_64_8,cv_8_64,cv_64_i64,cv_i64_64,cv_64_int,cv_int_64,errV_0,e0,e3,e4,hcv,hlt10]
    have hbt : (UInt8.ofNat m).toNat = m := by simp; omega
    have hl1 := lputs_one pre r (UInt8.ofNat m)
    rw [hbt] at hl1
    refine OpW_store_of (o := pre.length) hB ⟨rfl, rfl⟩ (by simp only [zaa,zab,zac,zad,zae,zaf,zag,zah,zai,zaj,zak,zal,zam,zan,zao,zap,zaq,zar,zas,zat,zau,zav,zaw,zax,zay,zaz,zba,aUn,zbb,zbc,zbd,zbe,zbf,zbg,zbh,zbi,zbj,zbk,zbl,zbm,zbn,flat,simple,zbo,zbp,zbq,zbr,zbs,zbt,zbu,zbv,zbw,zbx,zby,zbz,zca,zcb,zcc,zcd,zce,zcf,zcg,zch,zci,zcj,zck,zcl,zcm,zcn,zco,zcp,zcq,zcr,Nat.reduceEqDiff,Nat.reduceLT,Nat.reduceAdd,Nat.reduceSub,reduceIte,Kt_P,zcs,zct,zcu,zcv,zcw,zcx,zcy,zcz,zda,zdb,zdc,zdd,zde,zdf,zdg,zdh,zdi,zdj,zdk,reduceCtorEq,zdl,zdm,zdn,goInt,zdo,zdp,zdq,zdr,zds,zdt,zdu,zdv,zdw,zdx,zdy,zdz,zea,zeb,zec,zed,zdk,zee,zef,zeg,zeh,zei,zej,zek,zel,zem,zen,zeo,zep,zeq,zer,zes,zet,zeu,zev,zew,zex,zey,ya,yb,yc,yd,ye,yf,ts_int,ts_int64,ts_bool,ts_ints,ts_post,ts_posts,yg,yh,yi,yj,yk,yl,ym,ts_intsl,ts_int64s,ts_bools,ts_side,ts_sideb,ts_pints,ts_pbool,aPure,aLen,ywa,ywb,ywc,ywd,ywe,ywf,ywg,ywh,ywi,ywj,ywk,ywl,ywm,ywn,ywo,ts_string,ts_u8,ts_u64,ts_error,ts_bytes,ts_arr,ts_reader,ts_pbuilder,ts_builder,cv_64_8,cv_8_64,cv_64_i64,cv_i64_64,cv_64_int,cv_int_64,errV_0]) ts_u8 (by show pre.length + 1 ≤ _; rw [u8s_len]; simp; omega) rfl fun G2 hm2 hF2 hB2 => ?_
    have hB3 : Box G2 b3 79 (u8s ((pre ++ [UInt8.ofNat m]) ++ List.replicate r 0)) := by
      rw [← hl1, ← hr]
      exact hB2
    simp only [zaa,zab,zac,zad,zae,zaf,zag,zah,zai,zaj,zak,zal,zam,zan,zao,zap,zaq,zar,zas,zat,zau,zav,zaw,zax,zay,zaz,zba,aUn,zbb,zbc,zbd,zbe,zbf,zbg,zbh,zbi,zbj,zbk,zbl,zbm,zbn,flat,simple,zbo,zbp,zbq,zbr,zbs,zbt,zbu,zbv,zbw,zbx,zby,zbz,zca,zcb,zcc,zcd,zce,zcf,zcg,zch,zci,zcj,zck,zcl,zcm,zcn,zco,zcp,zcq,zcr,Nat.reduceEqDiff,Nat.reduceLT,Nat.reduceAdd,Nat.reduceSub,reduceIte,Kt_P,zcs,zct,zcu,zcv,zcw,zcx,zcy,zcz,zda,zdb,zdc,zdd,zde,zdf,zdg,zdh,zdi,zdj,zdk,reduceCtorEq,zdl,zdm,zdn,goInt,zdo,zdp,zdq,zdr,zds,zdt,zdu,zdv,zdw,zdx,zdy,zdz,zea,zeb,zec,zed,zdk,zee,zef,zeg,zeh,zei,zej,zek,zel,zem,zen,zeo,zep,zeq,zer,zes,zet,zeu,zev,zew,zex,zey,ya,yb,yc,yd,ye,yf,ts_int,ts_int64,ts_bool,ts_ints,ts_post,ts_posts,yg,yh,yi,yj,yk,yl,ym,ts_intsl,ts_int64s,ts_bools,ts_side,ts_sideb,ts_pints,ts_pbool,aPure,aLen,ywa,ywb,ywc,ywd,ywe,ywf,ywg,ywh,ywi,ywj,ywk,ywl,ywm,ywn,ywo,ts_string,ts_u8,ts_u64,ts_error,ts_bytes,ts_arr,ts_reader,ts_pbuilder,ts_builder,cv_64_8,cv_8_64,cv_64_i64,cv_i64_64,cv_64_int,cv_int_64,errV_0,e3,e4,hsucc]
    refine OpW_sliceArr (b := b3) (k := .i64) (k' := .i64) (n := 10) (i := pre.length + 1) Tryd.underlying79 ts_u8 rfl (by simp only [zaa,zab,zac,zad,zae,zaf,zag,zah,zai,zaj,zak,zal,zam,zan,zao,zap,zaq,zar,zas,zat,zau,zav,zaw,zax,zay,zaz,zba,aUn,zbb,zbc,zbd,zbe,zbf,zbg,zbh,zbi,zbj,zbk,zbl,zbm,zbn,flat,simple,zbo,zbp,zbq,zbr,zbs,zbt,zbu,zbv,zbw,zbx,zby,zbz,zca,zcb,zcc,zcd,zce,zcf,zcg,zch,zci,zcj,zck,zcl,zcm,zcn,zco,zcp,zcq,zcr,Nat.reduceEqDiff,Nat.reduceLT,Nat.reduceAdd,Nat.reduceSub,reduceIte,Kt_P,zcs,zct,zcu,zcv,zcw,zcx,zcy,zcz,zda,zdb,zdc,zdd,zde,zdf,zdg,zdh,zdi,zdj,zdk,reduceCtorEq,zdl,zdm,zdn,goInt,zdo,zdp,zdq,zdr,zds,zdt,zdu,zdv,zdw,zdx,zdy,zdz,zea,zeb,zec,zed,zdk,zee,zef,zeg,zeh,zei,zej,zek,zel,zem,zen,zeo,zep,zeq,zer,zes,zet,zeu,zev,zew,zex,zey,ya,yb,yc,yd,ye,yf,ts_int,ts_int64,ts_bool,ts_ints,ts_post,ts_posts,yg,yh,yi,yj,yk,yl,ym,ts_intsl,ts_int64s,ts_bools,ts_side,ts_sideb,ts_pints,ts_pbool,aPure,aLen,ywa,ywb,ywc,ywd,ywe,ywf,ywg,ywh,ywi,ywj,ywk,ywl,ywm,ywn,ywo,ts_string,ts_u8,ts_u64,ts_error,ts_bytes,ts_arr,ts_reader,ts_pbuilder,ts_builder,cv_64_8,cv_8_64,cv_64_i64,cv_i64_64,cv_64_int,cv_int_64,errV_0,e3]) (by simp only [zaa,zab,zac,zad,zae,zaf,zag,zah,zai,zaj,zak,zal,zam,zan,zao,zap,zaq,zar,zas,zat,zau,zav,zaw,zax,zay,zaz,zba,aUn,zbb,zbc,zbd,zbe,zbf,zbg,zbh,zbi,zbj,zbk,zbl,zbm,zbn,flat,simple,zbo,zbp,zbq,zbr,zbs,zbt,zbu,zbv,zbw,zbx,zby,zbz,zca,zcb,zcc,zcd,zce,zcf,zcg,zch,zci,zcj,zck,zcl,zcm,zcn,zco,zcp,zcq,zcr,Nat.reduceEqDiff,Nat.reduceLT,Nat.reduceAdd,Nat.reduceSub,reduceIte,Kt_P,zcs,zct,zcu,zcv,zcw,zcx,zcy,zcz,zda,zdb,zdc,zdd,zde,zdf,zdg,zdh,zdi,zdj,zdk,reduceCtorEq,zdl,zdm,zdn,goInt,zdo,zdp,zdq,zdr,zds,zdt,zdu,zdv,zdw,zdx,zdy,zdz,zea,zeb,zec,zed,zdk,zee,zef,zeg,zeh,zei,zej,zek,zel,zem,zen,zeo,zep,zeq,zer,zes,zet,zeu,zev,zew,zex,zey,ya,yb,yc,yd,ye,yf,ts_int,ts_int64,ts_bool,ts_ints,ts_post,ts_posts,yg,yh,yi,yj,yk,yl,ym,ts_intsl,ts_int64s,ts_bools,ts_side,ts_sideb,ts_pints,ts_pbool,aPure,aLen,ywa,ywb,ywc,ywd,ywe,ywf,ywg,ywh,ywi,ywj,ywk,ywl,ywm,ywn,ywo,ts_string,ts_u8,ts_u64,ts_error,ts_bytes,ts_arr,ts_reader,ts_pbuilder,ts_builder,cv_64_8,cv_8_64,cv_64_i64,cv_i64_64,cv_64_int,cv_int_64,errV_0]) (by simp only [zaa,zab,zac,zad,zae,zaf,zag,zah,zai,zaj,zak,zal,zam,zan,zao,zap,zaq,zar,zas,zat,zau,zav,zaw,zax,zay,zaz,zba,aUn,zbb,zbc,zbd,zbe,zbf,zbg,zbh,zbi,zbj,zbk,zbl,zbm,zbn,flat,simple,zbo,zbp,zbq,zbr,zbs,zbt,zbu,zbv,zbw,zbx,zby,zbz,zca,zcb,zcc,zcd,zce,zcf,zcg,zch,zci,zcj,zck,zcl,zcm,zcn,zco,zcp,zcq,zcr,Nat.reduceEqDiff,Nat.reduceLT,Nat.reduceAdd,Nat.reduceSub,reduceIte,Kt_P,zcs,zct,zcu,zcv,zcw,zcx,zcy,zcz,zda,zdb,zdc,zdd,zde,zdf,zdg,zdh,zdi,zdj,zdk,reduceCtorEq,zdl,zdm,zdn,goInt,zdo,zdp,zdq,zdr,zds,zdt,zdu,zdv,zdw,zdx,zdy,zdz,zea,zeb,zec,zed,zdk,zee,zef,zeg,zeh,zei,zej,zek,zel,zem,zen,zeo,zep,zeq,zer,zes,zet,zeu,zev,zew,zex,zey,ya,yb,yc,yd,ye,yf,ts_int,ts_int64,ts_bool,ts_ints,ts_post,ts_posts,yg,yh,yi,yj,yk,yl,ym,ts_intsl,ts_int64s,ts_bools,ts_side,ts_sideb,ts_pints,ts_pbool,aPure,aLen,ywa,ywb,ywc,ywd,ywe,ywf,ywg,ywh,ywi,ywj,ywk,ywl,ywm,ywn,ywo,ts_string,ts_u8,ts_u64,ts_error,ts_bytes,ts_arr,ts_reader,ts_pbuilder,ts_builder,cv_64_8,cv_8_64,cv_64_i64,cv_i64_64,cv_64_int,cv_int_64,errV_0]) (by omega) ?_
    simp only [zaa,zab,zac,zad,zae,zaf,zag,zah,zai,zaj,zak,zal,zam,zan,zao,zap,zaq,zar,zas,zat,zau,zav,zaw,zax,zay,zaz,zba,aUn,zbb,zbc,zbd,zbe,zbf,zbg,zbh,zbi,zbj,zbk,zbl,zbm,zbn,flat,simple,zbo,zbp,zbq,zbr,zbs,zbt,zbu,zbv,zbw,zbx,zby,zbz,zca,zcb,zcc,zcd,zce,zcf,zcg,zch,zci,zcj,zck,zcl,zcm,zcn,zco,zcp,zcq,zcr,Nat.reduceEqDiff,Nat.reduceLT,Nat.reduceAdd,Nat.reduceSub,reduceIte,Kt_P,zcs,zct,zcu,zcv,zcw,zcx,zcy,zcz,zda,zdb,zdc,zdd,zde,zdf,zdg,zdh,zdi,zdj,zdk,reduceCtorEq,zdl,zdm,zdn,goInt,zdo,zdp,zdq,zdr,zds,zdt,zdu,zdv,zdw,zdx,zdy,zdz,zea,zeb,zec,zed,zdk,zee,zef,zeg,zeh,zei,zej,zek,zel,zem,zen,zeo,zep,zeq,zer,zes,zet,zeu,zev,zew,zex,zey,ya,yb,yc,yd,ye,yf,ts_int,ts_int64,ts_bool,ts_ints,ts_post,ts_posts,yg,yh,yi,yj,yk,yl,ym,ts_intsl,ts_int64s,ts_bools,ts_side,ts_sideb,ts_pints,ts_pbool,aPure,aLen,ywa,ywb,ywc,ywd,ywe,ywf,ywg,ywh,ywi,ywj,ywk,ywl,ywm,ywn,ywo,ts_string,ts_u8,ts_u64,ts_error,ts_bytes,ts_arr,ts_reader,ts_pbuilder,ts_builder,cv_64_8,cv_8_64,cv_64_i64,cv_i64_64,cv_64_int,cv_int_64,errV_0]
    refine OpW_bytesStr (b := b3) (n := pre.length + 1) (c := pre.length + 1) (l := pre ++ [UInt8.ofNat m]) Tryd.underlying51 Tryd.underlying9 Tryd.underlying5 rfl (by simp only [zaa,zab,zac,zad,zae,zaf,zag,zah,zai,zaj,zak,zal,zam,zan,zao,zap,zaq,zar,zas,zat,zau,zav,zaw,zax,zay,zaz,zba,aUn,zbb,zbc,zbd,zbe,zbf,zbg,zbh,zbi,zbj,zbk,zbl,zbm,zbn,flat,simple,zbo,zbp,zbq,zbr,zbs,zbt,zbu,zbv,zbw,zbx,zby,zbz,zca,zcb,zcc,zcd,zce,zcf,zcg,zch,zci,zcj,zck,zcl,zcm,zcn,zco,zcp,zcq,zcr,Nat.reduceEqDiff,Nat.reduceLT,Nat.reduceAdd,Nat.reduceSub,reduceIte,Kt_P,zcs,zct,zcu,zcv,zcw,zcx,zcy,zcz,zda,zdb,zdc,zdd,zde,zdf,zdg,zdh,zdi,zdj,zdk,reduceCtorEq,zdl,zdm,zdn,goInt,zdo,zdp,zdq,zdr,zds,zdt,zdu,zdv,zdw,zdx,zdy,zdz,zea,zeb,zec,zed,zdk,zee,zef,zeg,zeh,zei,zej,zek,zel,zem,zen,zeo,zep,zeq,zer,zes,zet,zeu,zev,zew,zex,zey,ya,yb,yc,yd,ye,yf,ts_int,ts_int64,ts_bool,ts_ints,ts_post,ts_posts,yg,yh,yi,yj,yk,yl,ym,ts_intsl,ts_int64s,ts_bools,ts_side,ts_sideb,ts_pints,ts_pbool,aPure,aLen,ywa,ywb,ywc,ywd,ywe,ywf,ywg,ywh,ywi,ywj,ywk,ywl,ywm,ywn,ywo,ts_string,ts_u8,ts_u64,ts_error,ts_bytes,ts_arr,ts_reader,ts_pbuilder,ts_builder,cv_64_8,cv_8_64,cv_64_i64,cv_i64_64,cv_64_int,cv_int_64,errV_0]) ?_ ?_
    · rw [acells_of hB3.arow (by simp [u8s])]
      congr 1
      rw [List.drop_zero, u8s_append (pre ++ [UInt8.ofNat m])]
      exact List.take_left' (by simp [u8s])
    · simp only [zaa,zab,zac,zad,zae,zaf,zag,zah,zai,zaj,zak,zal,zam,zan,zao,zap,zaq,zar,zas,zat,zau,zav,zaw,zax,zay,zaz,zba,aUn,zbb,zbc,zbd,zbe,zbf,zbg,zbh,zbi,zbj,zbk,zbl,zbm,zbn,flat,simple,zbo,zbp,zbq,zbr,zbs,zbt,zbu,zbv,zbw,zbx,zby,zbz,zca,zcb,zcc,zcd,zce,zcf,zcg,zch,zci,zcj,zck,zcl,zcm,zcn,zco,zcp,zcq,zcr,Nat.reduceEqDiff,Nat.reduceLT,Nat.reduceAdd,Nat.reduceSub,reduceIte,Kt_P,zcs,zct,zcu,zcv,zcw,zcx,zcy,zcz,zda,zdb,zdc,zdd,zde,zdf,zdg,zdh,zdi,zdj,zdk,reduceCtorEq,zdl,zdm,zdn,goInt,zdo,zdp,zdq,zdr,zds,zdt,zdu,zdv,zdw,zdx,zdy,zdz,zea,zeb,zec,zed,zdk,zee,zef,zeg,zeh,zei,zej,zek,zel,zem,zen,zeo,zep,zeq,zer,zes,zet,zeu,zev,zew,zex,zey,ya,yb,yc,yd,ye,yf,ts_int,ts_int64,ts_bool,ts_ints,ts_post,ts_posts,yg,yh,yi,yj,yk,yl,ym,ts_intsl,ts_int64s,ts_bools,ts_side,ts_sideb,ts_pints,ts_pbool,aPure,aLen,ywa,ywb,ywc,ywd,ywe,ywf,ywg,ywh,ywi,ywj,ywk,ywl,ywm,ywn,ywo,ts_string,ts_u8,ts_u64,ts_error,ts_bytes,ts_arr,ts_reader,ts_pbuilder,ts_builder,cv_64_8,cv_8_64,cv_64_i64,cv_i64_64,cv_64_int,cv_int_64,errV_0]
      refine hq _ _ (Fr.trans hE hF2 fun b hb h => by omega) ?_
      rw [bl_mk, hu]
      congr 1
      conv => rhs; rw [uintL]
      rw [dif_pos hlt']

theorem xor_zero {a : Nat} (ha : a < 18446744073709551616) : (BitVec.ofInt 64 (a : Int) ^^^ BitVec.ofInt 64 0).toNat = a := by
  rw [show BitVec.ofInt 64 0 = 0 from rfl, xor_zero64, BitVec.ofInt_natCast, BitVec.toNat_ofNat, Nat.mod_eq_of_lt ha]
theorem xor_ones {a : Nat} (ha : a < 18446744073709551616) : (BitVec.ofInt 64 (a : Int) ^^^ BitVec.ofInt 64 (-1)).toNat = 18446744073709551615 - a := by
  rw [xor_ones64, BitVec.toNat_not, BitVec.ofInt_natCast, BitVec.toNat_ofNat, Nat.mod_eq_of_lt ha]
theorem ones_neg : BitVec.ofInt 64 18446744073709551615 = BitVec.ofInt 64 (-1) := by decide

theorem shr_i64 {n : Int} (h : inI64 n) (c : Bool) : aBin Tryd.prog .shr 2 c (.int .i64 n) (.int .u64 63) = some (.int .i64 (if 0 ≤ n then 0 else -1)) := by
  unfold inI64 at h
  have : n.fdiv 9223372036854775808 = if 0 ≤ n then 0 else -1 := by
    rw [Int.fdiv_eq_ediv_of_nonneg _ (by omega)]
    split <;> omega
  have h2 : (2 : Int) ^ (min (63 : Int).toNat IntKind.i64.bits) = 9223372036854775808 := by decide
  have h1 : ¬ ((63 : Int) < 0) := by omega
  simp only [aBin,intShift,h2,this,if_neg h1]
theorem shl_one {n : Int} (c : Bool) : aBin Tryd.prog .shl 57 c (.int .u64 n) (.int .u64 1) = some (.int .u64 (IntKind.u64.wrap (n * 2))) := by
  have h2 : (2 : Int) ^ (min (1 : Int).toNat IntKind.u64.bits) = 2 := by decide
  have h1 : ¬ ((1 : Int) < 0) := by omega
  simp only [aBin,intShift,h2,if_neg h1]
theorem shr_one {n : Nat} (c : Bool) : aBin Tryd.prog .shr 57 c (.int .u64 (n : Int)) (.int .u64 1) = some (.int .u64 ((n / 2 : Nat) : Int)) := by
  have h2 : (2 : Int) ^ (min (1 : Int).toNat IntKind.u64.bits) = 2 := by decide
  have h1 : ¬ ((1 : Int) < 0) := by omega
  have h3 : (n : Int).fdiv 2 = ((n / 2 : Nat) : Int) := by rw [Int.fdiv_eq_ediv_of_nonneg _ (by omega)]; omega
  simp only [aBin,intShift,h2,if_neg h1,h3]
theorem and_one {n : Nat} (hn : n < 18446744073709551616) : IntKind.u64.wrap (((BitVec.ofInt IntKind.u64.bits (n : Int) &&& BitVec.ofInt IntKind.u64.bits 1).toNat : Nat) : Int) = ((n % 2 : Nat) : Int) := by
  have : (BitVec.ofInt 64 (n : Int) &&& BitVec.ofInt 64 1).toNat = n % 2 := by
    rw [show BitVec.ofInt 64 1 = BitVec.ofNat 64 1 from rfl, BitVec.ofInt_natCast, BitVec.toNat_and, BitVec.toNat_ofNat, BitVec.toNat_ofNat, Nat.mod_eq_of_lt hn]
    exact Nat.and_one_is_mod n
  show IntKind.u64.wrap (((BitVec.ofInt 64 (n : Int) &&& BitVec.ofInt 64 1).toNat : Nat) : Int) = _
  rw [this, wrap_u64 (by omega)]

theorem wrap_i64_hi {x : Int} (h : 9223372036854775808 ≤ x ∧ x < 18446744073709551616) : IntKind.i64.wrap x = x - 18446744073709551616 := by
  obtain ⟨h1, h2⟩ := h
  simp [IntKind.wrap, IntKind.signed, IntKind.bits]
  split <;> omega

theorem int_ok (A : AHeap) (n : Int) (hn : inI64 n) (Q : Value → AHeap → Prop) (hq : ∀ s A', Ext A A' → bl s = uintL (zigN n).toNat → Q (.string s) A') : Cal Kt 23 #[.int .i64 n] A Q := by
  refine Cal_of (nt := 11) (rs := [.tmp 2]) fn_int rfl rfl rfl (Nat.le_of_ble_eq_true rfl) ?_
  have hn' := hn
  unfold inI64 at hn'
  have hfin : ∃ x : Nat, IntKind.u64.wrap (((BitVec.ofInt IntKind.u64.bits (IntKind.u64.wrap (IntKind.u64.wrap n * 2)) ^^^ BitVec.ofInt IntKind.u64.bits (IntKind.u64.wrap (if 0 ≤ n then 0 else -1))).toNat : Nat) : Int) = (x : Int) ∧ x = (zigN n).toNat ∧ x < 18446744073709551616 := by
    unfold zigN
    by_cases h0 : 0 ≤ n
    · rw [if_pos h0, if_pos h0]
      refine ⟨(2 * n).toNat, ?_, rfl, by omega⟩
      have e1 : IntKind.u64.wrap (IntKind.u64.wrap n * 2) = (((2 * n).toNat : Nat) : Int) := by rw [wrap_u64', wrap_u64']; omega
      have e2 : IntKind.u64.wrap 0 = 0 := by rw [wrap_u64']; rfl
      rw [e1, e2]
      have := xor_zero (a := (2 * n).toNat) (by omega)
      rw [show (BitVec.ofInt IntKind.u64.bits (((2 * n).toNat : Nat) : Int) ^^^ BitVec.ofInt IntKind.u64.bits 0).toNat = (2 * n).toNat from this, wrap_u64 (by omega)]
    · rw [if_neg h0, if_neg h0]
      refine ⟨(-2 * n - 1).toNat, ?_, rfl, by omega⟩
      have e1 : IntKind.u64.wrap (IntKind.u64.wrap n * 2) = (((2 * n + 18446744073709551616).toNat : Nat) : Int) := by rw [wrap_u64', wrap_u64']; omega
      have e2 : IntKind.u64.wrap (-1) = 18446744073709551615 := by rw [wrap_u64']; rfl
      rw [e1, e2]
      have := xor_ones (a := (2 * n + 18446744073709551616).toNat) (by omega)
      rw [← ones_neg] at this
      rw [show (BitVec.ofInt IntKind.u64.bits (((2 * n + 18446744073709551616).toNat : Nat) : Int) ^^^ BitVec.ofInt IntKind.u64.bits 18446744073709551615).toNat = 18446744073709551615 - (2 * n + 18446744073709551616).toNat from this, wrap_u64 (by omega)]
      omega
  obtain ⟨x, h1, h2, h3⟩ := hfin
  simp only [zaa,zab,zac,zad,zae,zaf,zag,zah,zai,zaj,zak,zal,zam,zan,zao,zap,zaq,zar,zas,zat,zau,zav,zaw,zax,zay,zaz,zba,aUn,zbb,zbc,zbd,zbe,zbf,zbg,zbh,zbi,zbj,zbk,zbl,zbm,zbn,flat,simple,zbo,zbp,zbq,zbr,zbs,zbt,zbu,zbv,zbw,zbx,zby,zbz,zca,zcb,zcc,zcd,zce,zcf,zcg,zch,zci,zcj,zck,zcl,zcm,zcn,zco,zcp,zcq,zcr,Nat.reduceEqDiff,Nat.reduceLT,Nat.reduceAdd,Nat.reduceSub,reduceIte,Kt_P,zcs,zct,zcu,zcv,zcw,zcx,zcy,zcz,zda,zdb,zdc,zdd,zde,zdf,zdg,zdh,zdi,zdj,zdk,reduceCtorEq,zdl,zdm,zdn,goInt,zdo,zdp,zdq,zdr,zds,zdt,zdu,zdv,zdw,zdx,zdy,zdz,zea,zeb,zec,zed,zdk,zee,zef,zeg,zeh,zei,zej,zek,zel,zem,zen,zeo,zep,zeq,zer,zes,zet,zeu,zev,zew,zex,zey,ya,yb,yc,yd,ye,yf,ts_int,ts_int64,ts_bool,ts_ints,ts_post,ts_posts,yg,yh,yi,yj,yk,yl,ym,ts_intsl,ts_int64s,ts_bools,ts_side,ts_sideb,ts_pints,ts_pbool,aPure,aLen,ywa,ywb,ywc,ywd,ywe,ywf,ywg,ywh,ywi,ywj,ywk,ywl,ywm,ywn,ywo,ts_string,ts_u8,ts_u64,ts_error,ts_bytes,ts_arr,ts_reader,ts_pbuilder,ts_builder,cv_64_8,cv_8_64,cv_64_i64,cv_i64_64,cv_64_int,cv_int_64,errV_0,shr_i64 hn,shl_one,aBin_xor,h1]
  rw [CalF_cal (Kt_prim (by decide) _ _)]
  refine uint_ok A x h3 _ fun s A' hE hs => ?_
  simp only [zaa,zab,zac,zad,zae,zaf,zag,zah,zai,zaj,zak,zal,zam,zan,zao,zap,zaq,zar,zas,zat,zau,zav,zaw,zax,zay,zaz,zba,aUn,zbb,zbc,zbd,zbe,zbf,zbg,zbh,zbi,zbj,zbk,zbl,zbm,zbn,flat,simple,zbo,zbp,zbq,zbr,zbs,zbt,zbu,zbv,zbw,zbx,zby,zbz,zca,zcb,zcc,zcd,zce,zcf,zcg,zch,zci,zcj,zck,zcl,zcm,zcn,zco,zcp,zcq,zcr,Nat.reduceEqDiff,Nat.reduceLT,Nat.reduceAdd,Nat.reduceSub,reduceIte,Kt_P,zcs,zct,zcu,zcv,zcw,zcx,zcy,zcz,zda,zdb,zdc,zdd,zde,zdf,zdg,zdh,zdi,zdj,zdk,reduceCtorEq,zdl,zdm,zdn,goInt,zdo,zdp,zdq,zdr,zds,zdt,zdu,zdv,zdw,zdx,zdy,zdz,zea,zeb,zec,zed,zdk,zee,zef,zeg,zeh,zei,zej,zek,zel,zem,zen,zeo,zep,zeq,zer,zes,zet,zeu,zev,zew,zex,zey,ya,yb,yc,yd,ye,yf,ts_int,ts_int64,ts_bool,ts_ints,ts_post,ts_posts,yg,yh,yi,yj,yk,yl,ym,ts_intsl,ts_int64s,ts_bools,ts_side,ts_sideb,ts_pints,ts_pbool,aPure,aLen,ywa,ywb,ywc,ywd,ywe,ywf,ywg,ywh,ywi,ywj,ywk,ywl,ywm,ywn,ywo,ts_string,ts_u8,ts_u64,ts_error,ts_bytes,ts_arr,ts_reader,ts_pbuilder,ts_builder,cv_64_8,cv_8_64,cv_64_i64,cv_i64_64,cv_64_int,cv_int_64,errV_0]
  exact hq s A' hE (by rw [hs, h2])

theorem rdi_ok (A : AHeap) (s : ByteArray) (hu : (rdU 0 0 (bl s)).1 < 18446744073709551616) (Q : Value → AHeap → Prop) (hq : Q (.tuple #[.int .i64 (zagN (rdU 0 0 (bl s)).1), .int .i64 (rdU 0 0 (bl s)).2.1, errV (rdU 0 0 (bl s)).2.2]) A) :
    Cal Kt 78 #[.string s, .int .i64 0] A Q := by
  refine Cal_of (nt := 27) (rs := [.tmp 4, .tmp 5, .tmp 6]) fn_rdi rfl rfl rfl (Nat.le_of_ble_eq_true rfl) ?_
  simp only [zaa,zab,zac,zad,zae,zaf,zag,zah,zai,zaj,zak,zal,zam,zan,zao,zap,zaq,zar,zas,zat,zau,zav,zaw,zax,zay,zaz,zba,aUn,zbb,zbc,zbd,zbe,zbf,zbg,zbh,zbi,zbj,zbk,zbl,zbm,zbn,flat,simple,zbo,zbp,zbq,zbr,zbs,zbt,zbu,zbv,zbw,zbx,zby,zbz,zca,zcb,zcc,zcd,zce,zcf,zcg,zch,zci,zcj,zck,zcl,zcm,zcn,zco,zcp,zcq,zcr,Nat.reduceEqDiff,Nat.reduceLT,Nat.reduceAdd,Nat.reduceSub,reduceIte,Kt_P,zcs,zct,zcu,zcv,zcw,zcx,zcy,zcz,zda,zdb,zdc,zdd,zde,zdf,zdg,zdh,zdi,zdj,zdk,reduceCtorEq,zdl,zdm,zdn,goInt,zdo,zdp,zdq,zdr,zds,zdt,zdu,zdv,zdw,zdx,zdy,zdz,zea,zeb,zec,zed,zdk,zee,zef,zeg,zeh,zei,zej,zek,zel,zem,zen,zeo,zep,zeq,zer,zes,zet,zeu,zev,zew,zex,zey,ya,yb,yc,yd,ye,yf,ts_int,ts_int64,ts_bool,ts_ints,ts_post,ts_posts,yg,yh,yi,yj,yk,yl,ym,ts_intsl,ts_int64s,ts_bools,ts_side,ts_sideb,ts_pints,ts_pbool,aPure,aLen,ywa,ywb,ywc,ywd,ywe,ywf,ywg,ywh,ywi,ywj,ywk,ywl,ywm,ywn,ywo,ts_string,ts_u8,ts_u64,ts_error,ts_bytes,ts_arr,ts_reader,ts_pbuilder,ts_builder,cv_64_8,cv_8_64,cv_64_i64,cv_i64_64,cv_64_int,cv_int_64,errV_0]
  rw [CalF_cal (Kt_prim (by decide) _ _)]
  refine rdu_ok A s _ ?_
  generalize (rdU 0 0 (bl s)).1 = u at *
  generalize (rdU 0 0 (bl s)).2.1 = w at *
  generalize (rdU 0 0 (bl s)).2.2 = k at *
  have e1 : IntKind.i64.wrap ((u / 2 : Nat) : Int) = ((u / 2 : Nat) : Int) := wrap_i64 (by omega)
  have e2 : IntKind.i64.wrap ((u % 2 : Nat) : Int) = ((u % 2 : Nat) : Int) := wrap_i64 (by omega)
  have e3 : IntKind.i64.wrap (0 - ((u % 2 : Nat) : Int)) = -((u % 2 : Nat) : Int) := by rw [wrap_i64 (by omega)]; omega
  have e4 : IntKind.i64.wrap (((BitVec.ofInt IntKind.i64.bits ((u / 2 : Nat) : Int) ^^^ BitVec.ofInt IntKind.i64.bits (-((u % 2 : Nat) : Int))).toNat : Nat) : Int) = zagN u := by
    unfold zagN
    rcases Nat.mod_two_eq_zero_or_one u with h | h
    · rw [h, if_pos (by omega)]
      have := xor_zero (a := u / 2) (by omega)
      rw [show (BitVec.ofInt IntKind.i64.bits ((u / 2 : Nat) : Int) ^^^ BitVec.ofInt IntKind.i64.bits (-((0 : Nat) : Int))).toNat = u / 2 from this, wrap_i64 (by omega)]
      omega
    · rw [h, if_neg (by omega)]
      have := xor_ones (a := u / 2) (by omega)
      rw [show (BitVec.ofInt IntKind.i64.bits ((u / 2 : Nat) : Int) ^^^ BitVec.ofInt IntKind.i64.bits (-((1 : Nat) : Int))).toNat = 18446744073709551615 - u / 2 from this, wrap_i64_hi (by omega)]
      omega
  simp only [zaa,zab,zac,zad,zae,zaf,zag,zah,zai,zaj,zak,zal,zam,zan,zao,zap,zaq,zar,zas,zat,zau,zav,zaw,zax,zay,zaz,zba,aUn,zbb,zbc,zbd,zbe,zbf,zbg,zbh,zbi,zbj,zbk,zbl,zbm,zbn,flat,simple,zbo,zbp,zbq,zbr,zbs,zbt,zbu,zbv,zbw,zbx,zby,zbz,zca,zcb,zcc,zcd,zce,zcf,zcg,zch,zci,zcj,zck,zcl,zcm,zcn,zco,zcp,zcq,zcr,Nat.reduceEqDiff,Nat.reduceLT,Nat.reduceAdd,Nat.reduceSub,reduceIte,Kt_P,zcs,zct,zcu,zcv,zcw,zcx,zcy,zcz,zda,zdb,zdc,zdd,zde,zdf,zdg,zdh,zdi,zdj,zdk,reduceCtorEq,zdl,zdm,zdn,goInt,zdo,zdp,zdq,zdr,zds,zdt,zdu,zdv,zdw,zdx,zdy,zdz,zea,zeb,zec,zed,zdk,zee,zef,zeg,zeh,zei,zej,zek,zel,zem,zen,zeo,zep,zeq,zer,zes,zet,zeu,zev,zew,zex,zey,ya,yb,yc,yd,ye,yf,ts_int,ts_int64,ts_bool,ts_ints,ts_post,ts_posts,yg,yh,yi,yj,yk,yl,ym,ts_intsl,ts_int64s,ts_bools,ts_side,ts_sideb,ts_pints,ts_pbool,aPure,aLen,ywa,ywb,ywc,ywd,ywe,ywf,ywg,ywh,ywi,ywj,ywk,ywl,ywm,ywn,ywo,ts_string,ts_u8,ts_u64,ts_error,ts_bytes,ts_arr,ts_reader,ts_pbuilder,ts_builder,cv_64_8,cv_8_64,cv_64_i64,cv_i64_64,cv_64_int,cv_int_64,errV_0,shr_one,aBin_and,and_one hu,e1,e2,e3,aBin_xor,e4]
  exact hq
end Go.Sh
