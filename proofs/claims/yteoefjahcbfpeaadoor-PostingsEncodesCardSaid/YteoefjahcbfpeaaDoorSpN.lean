/- What single functions do, part 13: numbers out of bytes. -/
import Derived.Test.YteoefjahcbfpeaaDoorSp0A
import Derived.Test.YteoefjahcbfpeaaDoorSkC
namespace Go.Sh
open Go Go.Proofs
set_option linter.unusedSimpArgs false
set_option maxRecDepth 4000
set_option maxHeartbeats 1000000

theorem ywa : type_of% Tryd.underlying9 := Tryd.underlying9
theorem ywb : type_of% Tryd.underlying5 := Tryd.underlying5
theorem ywc : type_of% Tryd.underlying57 := Tryd.underlying57
theorem ywd : type_of% Tryd.underlying26 := Tryd.underlying26
theorem ywe : type_of% Tryd.underlying47 := Tryd.underlying47
theorem ywf : type_of% Tryd.underlying51 := Tryd.underlying51
theorem ywg : type_of% Tryd.underlying79 := Tryd.underlying79
theorem ywh : type_of% Tryd.underlying81 := Tryd.underlying81
theorem ywi : type_of% Tryd.underlying67 := Tryd.underlying67
theorem ywj : type_of% Tryd.underlying69 := Tryd.underlying69
theorem ywk : type_of% Tryd.underlying50 := Tryd.underlying50
theorem ywl : type_of% Tryd.underlying53 := Tryd.underlying53
theorem ywm : type_of% Tryd.underlying100 := Tryd.underlying100
theorem ywn : type_of% Tryd.underlying99 := Tryd.underlying99
theorem ywo : type_of% Tryd.underlying80 := Tryd.underlying80
theorem ts_string : tsize Tryd.prog 9 = some 1 := by kernel_rfl
theorem ts_u8 : tsize Tryd.prog 5 = some 1 := by kernel_rfl
theorem ts_u64 : tsize Tryd.prog 57 = some 1 := by kernel_rfl
theorem ts_error : tsize Tryd.prog 26 = some 1 := by kernel_rfl
theorem ts_bytes : tsize Tryd.prog 51 = some 1 := by kernel_rfl
theorem ts_arr : tsize Tryd.prog 79 = some 10 := by kernel_rfl
theorem ts_reader : tsize Tryd.prog 69 = some 2 := by kernel_rfl
theorem ts_pbuilder : tsize Tryd.prog 50 = some 1 := by kernel_rfl
theorem ts_builder : tsize Tryd.prog 53 = some 2 := by kernel_rfl
theorem cv_64_8 : type_of% (@OpW_convint Kt 57 5 _ _ Tryd.underlying57 Tryd.underlying5) := @OpW_convint Kt 57 5 _ _ Tryd.underlying57 Tryd.underlying5
theorem cv_8_64 : type_of% (@OpW_convint Kt 5 57 _ _ Tryd.underlying5 Tryd.underlying57) := @OpW_convint Kt 5 57 _ _ Tryd.underlying5 Tryd.underlying57
theorem cv_64_i64 : type_of% (@OpW_convint Kt 57 2 _ _ Tryd.underlying57 Tryd.underlying2) := @OpW_convint Kt 57 2 _ _ Tryd.underlying57 Tryd.underlying2
theorem cv_i64_64 : type_of% (@OpW_convint Kt 2 57 _ _ Tryd.underlying2 Tryd.underlying57) := @OpW_convint Kt 2 57 _ _ Tryd.underlying2 Tryd.underlying57
theorem cv_64_int : type_of% (@OpW_convint Kt 57 3 _ _ Tryd.underlying57 Tryd.underlying3) := @OpW_convint Kt 57 3 _ _ Tryd.underlying57 Tryd.underlying3
theorem cv_int_64 : type_of% (@OpW_convint Kt 3 57 _ _ Tryd.underlying3 Tryd.underlying57) := @OpW_convint Kt 3 57 _ _ Tryd.underlying3 Tryd.underlying57

/-- An error by its number; 0: none. -/
def errV (k : Nat) : Value := if k = 0 then .nilIface else .iface 47 (.int .i64 k)
theorem errV_0 : errV 0 = .nilIface := rfl

theorem fn_rdu : Kt.funcs 77 = some Tryd.f77 := by kernel_rfl

section
variable {P : Program} {t : TypeId} {c : Bool}
theorem aBin_or {k : IntKind} {a b : Int} : aBin P .or t c (.int k a) (.int k b) = some (.int k (k.wrap (BitVec.ofInt k.bits a ||| BitVec.ofInt k.bits b).toNat)) := by simp [aBin, intBin]
theorem aBin_and {k : IntKind} {a b : Int} : aBin P .and t c (.int k a) (.int k b) = some (.int k (k.wrap (BitVec.ofInt k.bits a &&& BitVec.ofInt k.bits b).toNat)) := by simp [aBin, intBin]
theorem aBin_xor {k : IntKind} {a b : Int} : aBin P .xor t c (.int k a) (.int k b) = some (.int k (k.wrap (BitVec.ofInt k.bits a ^^^ BitVec.ofInt k.bits b).toNat)) := by simp [aBin, intBin]
theorem aBin_shl64 {k : IntKind} {a w : Nat} (hw : w ≤ 64) (h : a * 2 ^ w < 18446744073709551616) : aBin P .shl t c (.int .u64 (a : Int)) (.int k (w : Int)) = some (.int .u64 ((a * 2 ^ w : Nat) : Int)) := by
  have h1 : ¬ ((w : Int) < 0) := by omega
  have h2 : min (w : Int).toNat IntKind.u64.bits = w := by simp [IntKind.bits]; omega
  have h3 : IntKind.u64.wrap ((a : Int) * 2 ^ w) = ((a * 2 ^ w : Nat) : Int) := by
    have h4 : (a : Int) * 2 ^ w = ((a * 2 ^ w : Nat) : Int) := by rw [Int.natCast_mul, Int.natCast_pow]; rfl
    rw [h4]
    exact wrap_u64 ⟨Int.natCast_nonneg _, Int.ofNat_lt.2 h⟩
  simp only [aBin,intShift,if_neg h1,h2,h3]
end


theorem rdu_ok (A : AHeap) (s : ByteArray) (Q : Value → AHeap → Prop) (hq : Q (.tuple #[.int .u64 (rdU 0 0 (bl s)).1, .int .i64 (rdU 0 0 (bl s)).2.1, errV (rdU 0 0 (bl s)).2.2]) A) :
    Cal Kt 77 #[.string s, .int .i64 0] A Q := by
  refine Cal_of (nt := 68) (rs := [.tmp 4, .tmp 5, .tmp 6]) fn_rdu rfl rfl rfl (Nat.le_of_ble_eq_true rfl) ?_
  have h00 : ((0 : Int) < 0) = False := eq_false (by omega)
  have hs0 : ((s.size : Int) < 0) = False := eq_false (by omega)
  simp only [zaa,zab,zac,zad,zae,zaf,zag,zah,zai,zaj,zak,zal,zam,zan,zao,zap,zaq,zar,zas,zat,zau,zav,zaw,zax,zay,zaz,zba,aUn,zbb,zbc,zbd,zbe,zbf,zbg,zbh,zbi,zbj,zbk,zbl,zbm,zbn,flat,simple,zbo,zbp,zbq,zbr,zbs,zbt,zbu,zbv,zbw,zbx,zby,zbz,zca,zcb,zcc,zcd,zce,zcf,zcg,zch,zci,zcj,zck,zcl,zcm,zcn,zco,zcp,zcq,zcr,Nat.reduceEqDiff,Nat.reduceLT,Nat.reduceAdd,Nat.reduceSub,reduceIte,Kt_P,zcs,zct,zcu,zcv,zcw,zcx,zcy,zcz,zda,zdb,zdc,zdd,zde,zdf,zdg,zdh,zdi,zdj,zdk,reduceCtorEq,zdl,zdm,zdn,goInt,zdo,zdp,zdq,zdr,zds,zdt,zdu,zdv,zdw,zdx,zdy,zdz,zea,zeb,zec,zed,zdk,zee,zef,zeg,zeh,zei,zej,zek,zel,zem,zen,zeo,zep,zeq,zer,zes,zet,zeu,zev,zew,zex,zey,ya,yb,yc,yd,ye,yf,ts_int,ts_int64,ts_bool,ts_ints,ts_post,ts_posts,yg,yh,yi,yj,yk,yl,ym,ts_intsl,ts_int64s,ts_bools,ts_side,ts_sideb,ts_pints,ts_pbool,aPure,aLen,ywa,ywb,ywc,ywd,ywe,ywf,ywg,ywh,ywi,ywj,ywk,ywl,ywm,ywn,ywo,ts_string,ts_u8,ts_u64,ts_error,ts_bytes,ts_arr,ts_reader,ts_pbuilder,ts_builder,cv_64_8,cv_8_64,cv_64_i64,cv_i64_64,cv_64_int,cv_int_64,errV_0,h00,hs0]
  refine Lop_inv (fun k e G => G = A ∧ ∃ (i n : Nat), (e 0 = .string s ∧ e 1 = .int .i64 0 ∧ e 7 = .int .u64 n ∧ e 8 = .int .i64 i) ∧ k = s.size - i ∧ i ≤ s.size ∧ i ≤ 9 ∧ n < 2 ^ (7 * i) ∧ rdU 0 0 (bl s) = rdU i n ((bl s).drop i))
    ?_ s.size _ _ ⟨rfl, 0, 0, by simp [put_at, argEnv], by simp, by simp, by simp, by simp, by simp⟩
  rintro k e G ⟨rfl, i, n, ⟨e0, e1, e7, e8⟩, rfl, hi, hi9, hn, hr⟩
  simp only [zaa,zab,zac,zad,zae,zaf,zag,zah,zai,zaj,zak,zal,zam,zan,zao,zap,zaq,zar,zas,zat,zau,zav,zaw,zax,zay,zaz,zba,aUn,zbb,zbc,zbd,zbe,zbf,zbg,zbh,zbi,zbj,zbk,zbl,zbm,zbn,flat,simple,zbo,zbp,zbq,zbr,zbs,zbt,zbu,zbv,zbw,zbx,zby,zbz,zca,zcb,zcc,zcd,zce,zcf,zcg,zch,zci,zcj,zck,zcl,zcm,zcn,zco,zcp,zcq,zcr,Nat.reduceEqDiff,Nat.reduceLT,Nat.reduceAdd,Nat.reduceSub,reduceIte,Kt_P,zcs,zct,zcu,zcv,zcw,zcx,zcy,zcz,zda,zdb,zdc,zdd,zde,zdf,zdg,zdh,zdi,zdj,zdk,reduceCtorEq,zdl,zdm,zdn,goInt,zdo,zdp,zdq,zdr,zds,zdt,zdu,zdv,zdw,zdx,zdy,zdz,zea,zeb,zec,zed,zdk,zee,zef,zeg,zeh,zei,zej,zek,zel,zem,zen,zeo,zep,zeq,zer,zes,zet,zeu,zev,zew,zex,zey,ya,yb,yc,yd,ye,yf,ts_int,ts_int64,ts_bool,ts_ints,ts_post,ts_posts,yg,yh,yi,yj,yk,yl,ym,ts_intsl,ts_int64s,ts_bools,ts_side,ts_sideb,ts_pints,ts_pbool,aPure,aLen,ywa,ywb,ywc,ywd,ywe,ywf,ywg,ywh,ywi,ywj,ywk,ywl,ywm,ywn,ywo,ts_string,ts_u8,ts_u64,ts_error,ts_bytes,ts_arr,ts_reader,ts_pbuilder,ts_builder,cv_64_8,cv_8_64,cv_64_i64,cv_i64_64,cv_64_int,cv_int_64,errV_0,e0,e1,e7,e8]
  refine Way_of (fun hlt => ?_) (fun hge => ?_)
  · have hL : i < (bl s).length := by rw [← bl_len]; exact hlt
    obtain ⟨b, hb0⟩ : ∃ b, (bl s)[i] = b := ⟨_, rfl⟩
    have hget : s[i]? = some b := by rw [bl_get, List.getElem?_eq_getElem hL, hb0]
    have hdrop : (bl s).drop i = b :: (bl s).drop (i + 1) := by rw [List.drop_eq_getElem_cons hL, hb0]
    have hb : b.toNat < 256 := b.toNat_lt
    have hsub : IntKind.i64.wrap ((i : Int) - 0) = (i : Int) := by rw [wrap_i64 (by omega)]; omega
    have hmul : IntKind.i64.wrap (7 * (i : Int)) = ((7 * i : Nat) : Int) := by rw [wrap_i64 (by omega)]; omega
    have hsucc : IntKind.i64.wrap ((i : Int) + 1) = ((i + 1 : Nat) : Int) := by rw [wrap_i64 (by omega)]; omega
    have hp64 : 2 ^ (7 * i) ≤ 2 ^ 63 := Nat.pow_le_pow_right (by omega) (by omega)
    have hn64 : n < 18446744073709551616 := by omega
    by_cases hcond : (i = 9 ∧ 1 < b.toNat) ∨ (0 < i ∧ b.toNat = 0)
    · have hres : rdU i n (b :: (bl s).drop (i + 1)) = (0, 0, 4) := by rw [rdU, if_pos hcond]
      rw [hr, hdrop, hres] at hq
      have f2 : ((i : Int) = 9) = (i = 9) := propext (by omega)
      by_cases h9 : i = 9
      · have f1 : (i = 9) = True := eq_true h9
        have f3 : (0 < i) = True := eq_true (by omega)
        by_cases hb1 : 1 < b.toNat
        · have f4 : ((1 : Int) < (b.toNat : Int)) = True := eq_true (by omega)
          simp only [zaa,zab,zac,zad,zae,zaf,zag,zah,zai,zaj,zak,zal,zam,zan,zao,zap,zaq,zar,zas,zat,zau,zav,zaw,zax,zay,zaz,zba,aUn,zbb,zbc,zbd,zbe,zbf,zbg,zbh,zbi,zbj,zbk,zbl,zbm,zbn,flat,simple,zbo,zbp,zbq,zbr,zbs,zbt,zbu,zbv,zbw,zbx,zby,zbz,zca,zcb,zcc,zcd,zce,zcf,zcg,zch,zci,zcj,zck,zcl,zcm,zcn,zco,zcp,zcq,zcr,Nat.reduceEqDiff,Nat.reduceLT,Nat.reduceAdd,Nat.reduceSub,reduceIte,Kt_P,zcs,zct,zcu,zcv,zcw,zcx,zcy,zcz,zda,zdb,zdc,zdd,zde,zdf,zdg,zdh,zdi,zdj,zdk,reduceCtorEq,zdl,zdm,zdn,goInt,zdo,zdp,zdq,zdr,zds,zdt,zdu,zdv,zdw,zdx,zdy,zdz,zea,zeb,zec,zed,zdk,zee,zef,zeg,zeh,zei,zej,zek,zel,zem,zen,zeo,zep,zeq,zer,zes,zet,zeu,zev,zew,zex,zey,ya,yb,yc,yd,ye,yf,ts_int,ts_int64,ts_bool,ts_ints,ts_post,ts_posts,yg,yh,yi,yj,yk,yl,ym,ts_intsl,ts_int64s,ts_bools,ts_side,ts_sideb,ts_pints,ts_pbool,aPure,aLen,ywa,ywb,ywc,ywd,ywe,ywf,ywg,ywh,ywi,ywj,ywk,ywl,ywm,ywn,ywo,ts_string,ts_u8,ts_u64,ts_error,ts_bytes,ts_arr,ts_reader,ts_pbuilder,ts_builder,cv_64_8,cv_8_64,cv_64_i64,cv_i64_64,cv_64_int,cv_int_64,errV_0,e0,e1,e7,e8,hget,hsub,f2,f1,f3,f4]
          exact hq
        · have f4 : ((1 : Int) < (b.toNat : Int)) = False := eq_false (by omega)
          have f5 : ((b.toNat : Int) = 0) = True := eq_true (by omega)
          simp only [zaa,zab,zac,zad,zae,zaf,zag,zah,zai,zaj,zak,zal,zam,zan,zao,zap,zaq,zar,zas,zat,zau,zav,zaw,zax,zay,zaz,zba,aUn,zbb,zbc,zbd,zbe,zbf,zbg,zbh,zbi,zbj,zbk,zbl,zbm,zbn,flat,simple,zbo,zbp,zbq,zbr,zbs,zbt,zbu,zbv,zbw,zbx,zby,zbz,zca,zcb,zcc,zcd,zce,zcf,zcg,zch,zci,zcj,zck,zcl,zcm,zcn,zco,zcp,zcq,zcr,Nat.reduceEqDiff,Nat.reduceLT,Nat.reduceAdd,Nat.reduceSub,reduceIte,Kt_P,zcs,zct,zcu,zcv,zcw,zcx,zcy,zcz,zda,zdb,zdc,zdd,zde,zdf,zdg,zdh,zdi,zdj,zdk,reduceCtorEq,zdl,zdm,zdn,goInt,zdo,zdp,zdq,zdr,zds,zdt,zdu,zdv,zdw,zdx,zdy,zdz,zea,zeb,zec,zed,zdk,zee,zef,zeg,zeh,zei,zej,zek,zel,zem,zen,zeo,zep,zeq,zer,zes,zet,zeu,zev,zew,zex,zey,ya,yb,yc,yd,ye,yf,ts_int,ts_int64,ts_bool,ts_ints,ts_post,ts_posts,yg,yh,yi,yj,yk,yl,ym,ts_intsl,ts_int64s,ts_bools,ts_side,ts_sideb,ts_pints,ts_pbool,aPure,aLen,ywa,ywb,ywc,ywd,ywe,ywf,ywg,ywh,ywi,ywj,ywk,ywl,ywm,ywn,ywo,ts_string,ts_u8,ts_u64,ts_error,ts_bytes,ts_arr,ts_reader,ts_pbuilder,ts_builder,cv_64_8,cv_8_64,cv_64_i64,cv_i64_64,cv_64_int,cv_int_64,errV_0,e0,e1,e7,e8,hget,hsub,f2,f1,f3,f4,f5]
          exact hq
      · have f1 : (i = 9) = False := eq_false h9
        have f3 : (0 < i) = True := eq_true (by omega)
        have f5 : ((b.toNat : Int) = 0) = True := eq_true (by omega)
        simp only [zaa,zab,zac,zad,zae,zaf,zag,zah,zai,zaj,zak,zal,zam,zan,zao,zap,zaq,zar,zas,zat,zau,zav,zaw,zax,zay,zaz,zba,aUn,zbb,zbc,zbd,zbe,zbf,zbg,zbh,zbi,zbj,zbk,zbl,zbm,zbn,flat,simple,zbo,zbp,zbq,zbr,zbs,zbt,zbu,zbv,zbw,zbx,zby,zbz,zca,zcb,zcc,zcd,zce,zcf,zcg,zch,zci,zcj,zck,zcl,zcm,zcn,zco,zcp,zcq,zcr,Nat.reduceEqDiff,Nat.reduceLT,Nat.reduceAdd,Nat.reduceSub,reduceIte,Kt_P,zcs,zct,zcu,zcv,zcw,zcx,zcy,zcz,zda,zdb,zdc,zdd,zde,zdf,zdg,zdh,zdi,zdj,zdk,reduceCtorEq,zdl,zdm,zdn,goInt,zdo,zdp,zdq,zdr,zds,zdt,zdu,zdv,zdw,zdx,zdy,zdz,zea,zeb,zec,zed,zdk,zee,zef,zeg,zeh,zei,zej,zek,zel,zem,zen,zeo,zep,zeq,zer,zes,zet,zeu,zev,zew,zex,zey,ya,yb,yc,yd,ye,yf,ts_int,ts_int64,ts_bool,ts_ints,ts_post,ts_posts,yg,yh,yi,yj,yk,yl,ym,ts_intsl,ts_int64s,ts_bools,ts_side,ts_sideb,ts_pints,ts_pbool,aPure,aLen,ywa,ywb,ywc,ywd,ywe,ywf,ywg,ywh,ywi,ywj,ywk,ywl,ywm,ywn,ywo,ts_string,ts_u8,ts_u64,ts_error,ts_bytes,ts_arr,ts_reader,ts_pbuilder,ts_builder,cv_64_8,cv_8_64,cv_64_i64,cv_i64_64,cv_64_int,cv_int_64,errV_0,e0,e1,e7,e8,hget,hsub,f2,f1,f3,f5]
        exact hq
    · have f2 : ((i : Int) = 9) = (i = 9) := propext (by omega)
      have hbig : b.toNat < 128 → b.toNat * 2 ^ (7 * i) < 18446744073709551616 := fun h128 => by
        rcases Nat.lt_or_ge i 9 with h9 | h9
        · have h1 : 2 ^ (7 * i) ≤ 2 ^ 56 := Nat.pow_le_pow_right (by omega) (by omega)
          have h2 : b.toNat * 2 ^ (7 * i) ≤ 127 * 2 ^ (7 * i) := Nat.mul_le_mul_right _ (by omega)
          omega
        · have h2 : b.toNat * 2 ^ (7 * i) ≤ 1 * 2 ^ (7 * i) := Nat.mul_le_mul_right _ (by
            rcases Nat.lt_or_ge 1 b.toNat with h | h
            · exact absurd (.inl ⟨by omega, h⟩) hcond
            · exact h)
          omega
      rcases Nat.eq_zero_or_pos i with h0 | h0
      · have f1 : (i = 9) = False := eq_false (by omega)
        have f3 : (0 < i) = False := eq_false (by omega)
        have f4 : True = True := rfl
        have f5 : True = True := rfl
        by_cases hb128 : b.toNat < 128
        · have hb128' : ((b.toNat : Int) < 128) = True := eq_true (by omega)
          have hres : rdU i n (b :: (bl s).drop (i + 1)) = (n + b.toNat * 2 ^ (7 * i), i + 1, 0) := by rw [rdU, if_neg hcond, if_pos hb128]
          have hcv : IntKind.u64.wrap (b.toNat : Int) = (b.toNat : Int) := wrap_u64 (by omega)
          have hsh := fun c : Bool => aBin_shl64 (P := Tryd.prog) (t := 57) (c := c) (k := .i64) (a := b.toNat) (w := 7 * i) (by omega) (hbig hb128)
          have hor := bits_or (a := n) (b := b.toNat) (w := 7 * i) hn (hbig hb128) hn64
          simp only [zaa,zab,zac,zad,zae,zaf,zag,zah,zai,zaj,zak,zal,zam,zan,zao,zap,zaq,zar,zas,zat,zau,zav,zaw,zax,zay,zaz,zba,aUn,zbb,zbc,zbd,zbe,zbf,zbg,zbh,zbi,zbj,zbk,zbl,zbm,zbn,flat,simple,zbo,zbp,zbq,zbr,zbs,zbt,zbu,zbv,zbw,zbx,zby,zbz,zca,zcb,zcc,zcd,zce,zcf,zcg,zch,zci,zcj,zck,zcl,zcm,zcn,zco,zcp,zcq,zcr,Nat.reduceEqDiff,Nat.reduceLT,Nat.reduceAdd,Nat.reduceSub,reduceIte,Kt_P,zcs,zct,zcu,zcv,zcw,zcx,zcy,zcz,zda,zdb,zdc,zdd,zde,zdf,zdg,zdh,zdi,zdj,zdk,reduceCtorEq,zdl,zdm,zdn,goInt,zdo,zdp,zdq,zdr,zds,zdt,zdu,zdv,zdw,zdx,zdy,zdz,zea,zeb,zec,zed,zdk,zee,zef,zeg,zeh,zei,zej,zek,zel,zem,zen,zeo,zep,zeq,zer,zes,zet,zeu,zev,zew,zex,zey,ya,yb,yc,yd,ye,yf,ts_int,ts_int64,ts_bool,ts_ints,ts_post,ts_posts,yg,yh,yi,yj,yk,yl,ym,ts_intsl,ts_int64s,ts_bools,ts_side,ts_sideb,ts_pints,ts_pbool,aPure,aLen,ywa,ywb,ywc,ywd,ywe,ywf,ywg,ywh,ywi,ywj,ywk,ywl,ywm,ywn,ywo,ts_string,ts_u8,ts_u64,ts_error,ts_bytes,ts_arr,ts_reader,ts_pbuilder,ts_builder,cv_64_8,cv_8_64,cv_64_i64,cv_i64_64,cv_64_int,cv_int_64,errV_0,e0,e1,e7,e8,hget,hsub,f2,f1,f3,hb128',hcv,hmul,hsh,aBin_or,hor,hsucc]
          rw [hr, hdrop, hres] at hq
          exact hq
        · have hb128' : ((b.toNat : Int) < 128) = False := eq_false (by omega)
          have hres : rdU i n (b :: (bl s).drop (i + 1)) = rdU (i + 1) (n + b.toNat % 128 * 2 ^ (7 * i)) ((bl s).drop (i + 1)) := by rw [rdU, if_neg hcond, if_neg hb128]
          have hi8 : i < 9 := by
            rcases Nat.lt_or_ge i 9 with h | h
            · exact h
            · exact absurd (.inl ⟨by omega, by omega⟩) hcond
          have hpow : 2 ^ (7 * (i + 1)) = 128 * 2 ^ (7 * i) := by rw [show 7 * (i + 1) = 7 * i + 7 by omega, Nat.pow_add]; omega
          have hp63 : 2 ^ (7 * (i + 1)) ≤ 2 ^ 63 := Nat.pow_le_pow_right (by omega) (by omega)
          have hm : b.toNat % 128 * 2 ^ (7 * i) ≤ 127 * 2 ^ (7 * i) := Nat.mul_le_mul_right _ (by omega)
          have hand : IntKind.u8.wrap (((BitVec.ofInt IntKind.u8.bits (b.toNat : Int) &&& BitVec.ofInt IntKind.u8.bits 127).toNat : Nat) : Int) = ((b.toNat % 128 : Nat) : Int) := by
            have := bits_low ⟨b.toNat, hb⟩
            rw [show (BitVec.ofInt IntKind.u8.bits (b.toNat : Int) &&& BitVec.ofInt IntKind.u8.bits 127).toNat = b.toNat % 128 from this, wrap_u8]
            omega
          have hcv : IntKind.u64.wrap ((b.toNat % 128 : Nat) : Int) = ((b.toNat % 128 : Nat) : Int) := wrap_u64 (by omega)
          have hsh := fun c : Bool => aBin_shl64 (P := Tryd.prog) (t := 57) (c := c) (k := .i64) (a := b.toNat % 128) (w := 7 * i) (by omega) (by omega)
          have hor := bits_or (a := n) (b := b.toNat % 128) (w := 7 * i) hn (by omega) hn64
          simp only [zaa,zab,zac,zad,zae,zaf,zag,zah,zai,zaj,zak,zal,zam,zan,zao,zap,zaq,zar,zas,zat,zau,zav,zaw,zax,zay,zaz,zba,aUn,zbb,zbc,zbd,zbe,zbf,zbg,zbh,zbi,zbj,zbk,zbl,zbm,zbn,flat,simple,zbo,zbp,zbq,zbr,zbs,zbt,zbu,zbv,zbw,zbx,zby,zbz,zca,zcb,zcc,zcd,zce,zcf,zcg,zch,zci,zcj,zck,zcl,zcm,zcn,zco,zcp,zcq,zcr,Nat.reduceEqDiff,Nat.reduceLT,Nat.reduceAdd,Nat.reduceSub,reduceIte,Kt_P,zcs,zct,zcu,zcv,zcw,zcx,zcy,zcz,zda,zdb,zdc,zdd,zde,zdf,zdg,zdh,zdi,zdj,zdk,reduceCtorEq,zdl,zdm,zdn,goInt,zdo,zdp,zdq,zdr,zds,zdt,zdu,zdv,zdw,zdx,zdy,zdz,zea,zeb,zec,zed,zdk,zee,zef,zeg,zeh,zei,zej,zek,zel,zem,zen,zeo,zep,zeq,zer,zes,zet,zeu,zev,zew,zex,zey,ya,yb,yc,yd,ye,yf,ts_int,ts_int64,ts_bool,ts_ints,ts_post,ts_posts,yg,yh,yi,yj,yk,yl,ym,ts_intsl,ts_int64s,ts_bools,ts_side,ts_sideb,ts_pints,ts_pbool,aPure,aLen,ywa,ywb,ywc,ywd,ywe,ywf,ywg,ywh,ywi,ywj,ywk,ywl,ywm,ywn,ywo,ts_string,ts_u8,ts_u64,ts_error,ts_bytes,ts_arr,ts_reader,ts_pbuilder,ts_builder,cv_64_8,cv_8_64,cv_64_i64,cv_i64_64,cv_64_int,cv_int_64,errV_0,e0,e1,e7,e8,hget,hsub,f2,f1,f3,hb128',aBin_and,hand,hcv,hmul,hsh,aBin_or,hor,hsucc]
          exact ⟨s.size - (i + 1), by omega, rfl, i + 1, n + b.toNat % 128 * 2 ^ (7 * i), by simp [put_at, e0, e1], rfl, by omega, by omega, by omega, by rw [hr, hdrop, hres]⟩
      · have f3 : (0 < i) = True := eq_true h0
        have f5 : ((b.toNat : Int) = 0) = False := eq_false (by intro h; exact hcond (.inr ⟨h0, by omega⟩))
        by_cases h9 : i = 9
        · have f1 : (i = 9) = True := eq_true h9
          have f4 : ((1 : Int) < (b.toNat : Int)) = False := eq_false (by intro h; exact hcond (.inl ⟨h9, by omega⟩))
          by_cases hb128 : b.toNat < 128
          · have hb128' : ((b.toNat : Int) < 128) = True := eq_true (by omega)
            have hres : rdU i n (b :: (bl s).drop (i + 1)) = (n + b.toNat * 2 ^ (7 * i), i + 1, 0) := by rw [rdU, if_neg hcond, if_pos hb128]
            have hcv : IntKind.u64.wrap (b.toNat : Int) = (b.toNat : Int) := wrap_u64 (by omega)
            have hsh := fun c : Bool => aBin_shl64 (P := Tryd.prog) (t := 57) (c := c) (k := .i64) (a := b.toNat) (w := 7 * i) (by omega) (hbig hb128)
            have hor := bits_or (a := n) (b := b.toNat) (w := 7 * i) hn (hbig hb128) hn64
            simp only [zaa,zab,zac,zad,zae,zaf,zag,zah,zai,zaj,zak,zal,zam,zan,zao,zap,zaq,zar,zas,zat,zau,zav,zaw,zax,zay,zaz,zba,aUn,zbb,zbc,zbd,zbe,zbf,zbg,zbh,zbi,zbj,zbk,zbl,zbm,zbn,flat,simple,zbo,zbp,zbq,zbr,zbs,zbt,zbu,zbv,zbw,zbx,zby,zbz,zca,zcb,zcc,zcd,zce,zcf,zcg,zch,zci,zcj,zck,zcl,zcm,zcn,zco,zcp,zcq,zcr,Nat.reduceEqDiff,Nat.reduceLT,Nat.reduceAdd,Nat.reduceSub,reduceIte,Kt_P,zcs,zct,zcu,zcv,zcw,zcx,zcy,zcz,zda,zdb,zdc,zdd,zde,zdf,zdg,zdh,zdi,zdj,zdk,reduceCtorEq,zdl,zdm,zdn,goInt,zdo,zdp,zdq,zdr,zds,zdt,zdu,zdv,zdw,zdx,zdy,zdz,zea,zeb,zec,zed,zdk,zee,zef,zeg,zeh,zei,zej,zek,zel,zem,zen,zeo,zep,zeq,zer,zes,zet,zeu,zev,zew,zex,zey,ya,yb,yc,yd,ye,yf,ts_int,ts_int64,ts_bool,ts_ints,ts_post,ts_posts,yg,yh,yi,yj,yk,yl,ym,ts_intsl,ts_int64s,ts_bools,ts_side,ts_sideb,ts_pints,ts_pbool,aPure,aLen,ywa,ywb,ywc,ywd,ywe,ywf,ywg,ywh,ywi,ywj,ywk,ywl,ywm,ywn,ywo,ts_string,ts_u8,ts_u64,ts_error,ts_bytes,ts_arr,ts_reader,ts_pbuilder,ts_builder,cv_64_8,cv_8_64,cv_64_i64,cv_i64_64,cv_64_int,cv_int_64,errV_0,e0,e1,e7,e8,hget,hsub,f2,f1,f3,f4,f5,hb128',hcv,hmul,hsh,aBin_or,hor,hsucc]
            rw [hr, hdrop, hres] at hq
            exact hq
          · have hb128' : ((b.toNat : Int) < 128) = False := eq_false (by omega)
            have hres : rdU i n (b :: (bl s).drop (i + 1)) = rdU (i + 1) (n + b.toNat % 128 * 2 ^ (7 * i)) ((bl s).drop (i + 1)) := by rw [rdU, if_neg hcond, if_neg hb128]
            have hi8 : i < 9 := by
              rcases Nat.lt_or_ge i 9 with h | h
              · exact h
              · exact absurd (.inl ⟨by omega, by omega⟩) hcond
            have hpow : 2 ^ (7 * (i + 1)) = 128 * 2 ^ (7 * i) := by rw [show 7 * (i + 1) = 7 * i + 7 by omega, Nat.pow_add]; omega
            have hp63 : 2 ^ (7 * (i + 1)) ≤ 2 ^ 63 := Nat.pow_le_pow_right (by omega) (by omega)
            have hm : b.toNat % 128 * 2 ^ (7 * i) ≤ 127 * 2 ^ (7 * i) := Nat.mul_le_mul_right _ (by omega)
            have hand : IntKind.u8.wrap (((BitVec.ofInt IntKind.u8.bits (b.toNat : Int) &&& BitVec.ofInt IntKind.u8.bits 127).toNat : Nat) : Int) = ((b.toNat % 128 : Nat) : Int) := by
              have := bits_low ⟨b.toNat, hb⟩
              rw [show (BitVec.ofInt IntKind.u8.bits (b.toNat : Int) &&& BitVec.ofInt IntKind.u8.bits 127).toNat = b.toNat % 128 from this, wrap_u8]
              omega
            have hcv : IntKind.u64.wrap ((b.toNat % 128 : Nat) : Int) = ((b.toNat % 128 : Nat) : Int) := wrap_u64 (by omega)
            have hsh := fun c : Bool => aBin_shl64 (P := Tryd.prog) (t := 57) (c := c) (k := .i64) (a := b.toNat % 128) (w := 7 * i) (by omega) (by omega)
            have hor := bits_or (a := n) (b := b.toNat % 128) (w := 7 * i) hn (by omega) hn64
            simp only [zaa,zab,zac,zad,zae,zaf,zag,zah,zai,zaj,zak,zal,zam,zan,zao,zap,zaq,zar,zas,zat,zau,zav,zaw,zax,zay,zaz,zba,aUn,zbb,zbc,zbd,zbe,zbf,zbg,zbh,zbi,zbj,zbk,zbl,zbm,zbn,flat,simple,zbo,zbp,zbq,zbr,zbs,zbt,zbu,zbv,zbw,zbx,zby,zbz,zca,zcb,zcc,zcd,zce,zcf,zcg,zch,zci,zcj,zck,zcl,zcm,zcn,zco,zcp,zcq,zcr,Nat.reduceEqDiff,Nat.reduceLT,Nat.reduceAdd,Nat.reduceSub,reduceIte,Kt_P,zcs,zct,zcu,zcv,zcw,zcx,zcy,zcz,zda,zdb,zdc,zdd,zde,zdf,zdg,zdh,zdi,zdj,zdk,reduceCtorEq,zdl,zdm,zdn,goInt,zdo,zdp,zdq,zdr,zds,zdt,zdu,zdv,zdw,zdx,zdy,zdz,zea,zeb,zec,zed,zdk,zee,zef,zeg,zeh,zei,zej,zek,zel,zem,zen,zeo,zep,zeq,zer,zes,zet,zeu,zev,zew,zex,zey,ya,yb,yc,yd,ye,yf,ts_int,ts_int64,ts_bool,ts_ints,ts_post,ts_posts,yg,yh,yi,yj,yk,yl,ym,ts_intsl,ts_int64s,ts_bools,ts_side,ts_sideb,ts_pints,ts_pbool,aPure,aLen,ywa,ywb,ywc,ywd,ywe,ywf,ywg,ywh,ywi,ywj,ywk,ywl,ywm,ywn,ywo,ts_string,ts_u8,ts_u64,ts_error,ts_bytes,ts_arr,ts_reader,ts_pbuilder,ts_builder,cv_64_8,cv_8_64,cv_64_i64,cv_i64_64,cv_64_int,cv_int_64,errV_0,e0,e1,e7,e8,hget,hsub,f2,f1,f3,f4,f5,hb128',aBin_and,hand,hcv,hmul,hsh,aBin_or,hor,hsucc]
            exact ⟨s.size - (i + 1), by omega, rfl, i + 1, n + b.toNat % 128 * 2 ^ (7 * i), by simp [put_at, e0, e1], rfl, by omega, by omega, by omega, by rw [hr, hdrop, hres]⟩
        · have f1 : (i = 9) = False := eq_false h9
          by_cases hb128 : b.toNat < 128
          · have hb128' : ((b.toNat : Int) < 128) = True := eq_true (by omega)
            have hres : rdU i n (b :: (bl s).drop (i + 1)) = (n + b.toNat * 2 ^ (7 * i), i + 1, 0) := by rw [rdU, if_neg hcond, if_pos hb128]
            have hcv : IntKind.u64.wrap (b.toNat : Int) = (b.toNat : Int) := wrap_u64 (by omega)
            have hsh := fun c : Bool => aBin_shl64 (P := Tryd.prog) (t := 57) (c := c) (k := .i64) (a := b.toNat) (w := 7 * i) (by omega) (hbig hb128)
            have hor := bits_or (a := n) (b := b.toNat) (w := 7 * i) hn (hbig hb128) hn64
            simp only [zaa,zab,zac,zad,zae,zaf,zag,zah,zai,zaj,zak,zal,zam,zan,zao,zap,zaq,zar,zas,zat,zau,zav,zaw,zax,zay,zaz,zba,aUn,zbb,zbc,zbd,zbe,zbf,zbg,zbh,zbi,zbj,zbk,zbl,zbm,zbn,flat,simple,zbo,zbp,zbq,zbr,zbs,zbt,zbu,zbv,zbw,zbx,zby,zbz,zca,zcb,zcc,zcd,zce,zcf,zcg,zch,zci,zcj,zck,zcl,zcm,zcn,zco,zcp,zcq,zcr,Nat.reduceEqDiff,Nat.reduceLT,Nat.reduceAdd,Nat.reduceSub,reduceIte,Kt_P,zcs,zct,zcu,zcv,zcw,zcx,zcy,zcz,zda,zdb,zdc,zdd,zde,zdf,zdg,zdh,zdi,zdj,zdk,reduceCtorEq,zdl,zdm,zdn,goInt,zdo,zdp,zdq,zdr,zds,zdt,zdu,zdv,zdw,zdx,zdy,zdz,zea,zeb,zec,zed,zdk,zee,zef,zeg,zeh,zei,zej,zek,zel,zem,zen,zeo,zep,zeq,zer,zes,zet,zeu,zev,zew,zex,zey,ya,yb,yc,yd,ye,yf,ts_int,ts_int64,ts_bool,ts_ints,ts_post,ts_posts,yg,yh,yi,yj,yk,yl,ym,ts_intsl,ts_int64s,ts_bools,ts_side,ts_sideb,ts_pints,ts_pbool,aPure,aLen,ywa,ywb,ywc,ywd,ywe,ywf,ywg,ywh,ywi,ywj,ywk,ywl,ywm,ywn,ywo,ts_string,ts_u8,ts_u64,ts_error,ts_bytes,ts_arr,ts_reader,ts_pbuilder,ts_builder,cv_64_8,cv_8_64,cv_64_i64,cv_i64_64,cv_64_int,cv_int_64,errV_0,e0,e1,e7,e8,hget,hsub,f2,f1,f3,f5,hb128',hcv,hmul,hsh,aBin_or,hor,hsucc]
            rw [hr, hdrop, hres] at hq
            exact hq
          · have hb128' : ((b.toNat : Int) < 128) = False := eq_false (by omega)
            have hres : rdU i n (b :: (bl s).drop (i + 1)) = rdU (i + 1) (n + b.toNat % 128 * 2 ^ (7 * i)) ((bl s).drop (i + 1)) := by rw [rdU, if_neg hcond, if_neg hb128]
            have hi8 : i < 9 := by
              rcases Nat.lt_or_ge i 9 with h | h
              · exact h
              · exact absurd (.inl ⟨by omega, by omega⟩) hcond
            have hpow : 2 ^ (7 * (i + 1)) = 128 * 2 ^ (7 * i) := by rw [show 7 * (i + 1) = 7 * i + 7 by omega, Nat.pow_add]; omega
            have hp63 : 2 ^ (7 * (i + 1)) ≤ 2 ^ 63 := Nat.pow_le_pow_right (by omega) (by omega)
            have hm : b.toNat % 128 * 2 ^ (7 * i) ≤ 127 * 2 ^ (7 * i) := Nat.mul_le_mul_right _ (by omega)
            have hand : IntKind.u8.wrap (((BitVec.ofInt IntKind.u8.bits (b.toNat : Int) &&& BitVec.ofInt IntKind.u8.bits 127).toNat : Nat) : Int) = ((b.toNat % 128 : Nat) : Int) := by
              have := bits_low ⟨b.toNat, hb⟩
              rw [show (BitVec.ofInt IntKind.u8.bits (b.toNat : Int) &&& BitVec.ofInt IntKind.u8.bits 127).toNat = b.toNat % 128 from this, wrap_u8]
              omega
            have hcv : IntKind.u64.wrap ((b.toNat % 128 : Nat) : Int) = ((b.toNat % 128 : Nat) : Int) := wrap_u64 (by omega)
            have hsh := fun c : Bool => aBin_shl64 (P := Tryd.prog) (t := 57) (c := c) (k := .i64) (a := b.toNat % 128) (w := 7 * i) (by omega) (by omega)
            have hor := bits_or (a := n) (b := b.toNat % 128) (w := 7 * i) hn (by omega) hn64
            simp only [zaa,zab,zac,zad,zae,zaf,zag,zah,zai,zaj,zak,zal,zam,zan,zao,zap,zaq,zar,zas,zat,zau,zav,zaw,zax,zay,zaz,zba,aUn,zbb,zbc,zbd,zbe,zbf,zbg,zbh,zbi,zbj,zbk,zbl,zbm,zbn,flat,simple,zbo,zbp,zbq,zbr,zbs,zbt,zbu,zbv,zbw,zbx,zby,zbz,zca,zcb,zcc,zcd,zce,zcf,zcg,zch,zci,zcj,zck,zcl,zcm,zcn,zco,zcp,zcq,zcr,Nat.reduceEqDiff,Nat.reduceLT,Nat.reduceAdd,Nat.reduceSub,reduceIte,Kt_P,zcs,zct,zcu,zcv,zcw,zcx,zcy,zcz,zda,zdb,zdc,zdd,zde,zdf,zdg,zdh,zdi,zdj,zdk,reduceCtorEq,zdl,zdm,zdn,goInt,zdo,zdp,zdq,zdr,zds,zdt,zdu,zdv,zdw,zdx,zdy,zdz,zea,zeb,zec,zed,zdk,zee,zef,zeg,zeh,zei,zej,zek,zel,zem,zen,zeo,zep,zeq,zer,zes,zet,zeu,zev,zew,zex,zey,ya,yb,yc,yd,ye,yf,ts_int,ts_int64,ts_bool,ts_ints,ts_post,ts_posts,yg,yh,yi,yj,yk,yl,ym,ts_intsl,ts_int64s,ts_bools,ts_side,ts_sideb,ts_pints,ts_pbool,aPure,aLen,ywa,ywb,ywc,ywd,ywe,ywf,ywg,ywh,ywi,ywj,ywk,ywl,ywm,ywn,ywo,ts_string,ts_u8,ts_u64,ts_error,ts_bytes,ts_arr,ts_reader,ts_pbuilder,ts_builder,cv_64_8,cv_8_64,cv_64_i64,cv_i64_64,cv_64_int,cv_int_64,errV_0,e0,e1,e7,e8,hget,hsub,f2,f1,f3,f5,hb128',aBin_and,hand,hcv,hmul,hsh,aBin_or,hor,hsucc]
            exact ⟨s.size - (i + 1), by omega, rfl, i + 1, n + b.toNat % 128 * 2 ^ (7 * i), by simp [put_at, e0, e1], rfl, by omega, by omega, by omega, by rw [hr, hdrop, hres]⟩
  · have hie : i = s.size := by omega
    have hres : rdU i n ((bl s).drop i) = (0, 0, 2) := by rw [hie, bl_len, List.drop_length]; rfl
    rw [hr, hres] at hq
    simp only [zaa,zab,zac,zad,zae,zaf,zag,zah,zai,zaj,zak,zal,zam,zan,zao,zap,zaq,zar,zas,zat,zau,zav,zaw,zax,zay,zaz,zba,aUn,zbb,zbc,zbd,zbe,zbf,zbg,zbh,zbi,zbj,zbk,zbl,zbm,zbn,flat,simple,zbo,zbp,zbq,zbr,zbs,zbt,zbu,zbv,zbw,zbx,zby,zbz,zca,zcb,zcc,zcd,zce,zcf,zcg,zch,zci,zcj,zck,zcl,zcm,zcn,zco,zcp,zcq,zcr,Nat.reduceEqDiff,Nat.reduceLT,Nat.reduceAdd,Nat.reduceSub,reduceIte,Kt_P,zcs,zct,zcu,zcv,zcw,zcx,zcy,zcz,zda,zdb,zdc,zdd,zde,zdf,zdg,zdh,zdi,zdj,zdk,reduceCtorEq,zdl,zdm,zdn,goInt,zdo,zdp,zdq,zdr,zds,zdt,zdu,zdv,zdw,zdx,zdy,zdz,zea,zeb,zec,zed,zdk,zee,zef,zeg,zeh,zei,zej,zek,zel,zem,zen,zeo,zep,zeq,zer,zes,zet,zeu,zev,zew,zex,zey,ya,yb,yc,yd,ye,yf,ts_int,ts_int64,ts_bool,ts_ints,ts_post,ts_posts,yg,yh,yi,yj,yk,yl,ym,ts_intsl,ts_int64s,ts_bools,ts_side,ts_sideb,ts_pints,ts_pbool,aPure,aLen,ywa,ywb,ywc,ywd,ywe,ywf,ywg,ywh,ywi,ywj,ywk,ywl,ywm,ywn,ywo,ts_string,ts_u8,ts_u64,ts_error,ts_bytes,ts_arr,ts_reader,ts_pbuilder,ts_builder,cv_64_8,cv_8_64,cv_64_i64,cv_i64_64,cv_64_int,cv_int_64,errV_0]
    exact hq
end Go.Sh
