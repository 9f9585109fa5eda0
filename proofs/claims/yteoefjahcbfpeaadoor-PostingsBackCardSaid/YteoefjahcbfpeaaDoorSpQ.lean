/- What single functions do, part 16: places out of bytes. -/
import Derived.Test.YteoefjahcbfpeaaDoorSpP
namespace Go.Sh
open Go Go.Proofs
set_option linter.unusedSimpArgs false
set_option linter.unusedVariables false
set_option maxRecDepth 4000
set_option maxHeartbeats 1000000

theorem form_ok (A : AHeap) (br : Nat) (s : ByteArray) (k : Nat) (so : Bool) (h : Rdr A br s k) (Q : Value → AHeap → Prop)
    (hq : ∀ A' k', A'.next = A.next → Fr (fun j => j = br) A A' → Rdr A' br s k' → (k' = if k = 0 ∧ so = false then 4 else k) → Q (.tuple #[]) A') : Cal Kt 60 #[.pointer (some ⟨br, 0, none⟩), .bool so] A Q := by
  refine Cal_of (nt := 17) (rs := []) fn_form rfl rfl rfl (Nat.le_of_ble_eq_true rfl) ?_
  have l1 := h.load (P := Tryd.prog) (o := 1) (t := 26) Tryd.underlying26 rfl rfl
  by_cases hk : k = 0
  · subst hk
    have herr := err_eql 0
    rw [errV_0] at herr l1
    cases so with
    | true =>
      simp only [zaa, zab, zac, zad, zae, zaf, zag, zah, zai, zaj, zak, zal, zam, zan, zao, zap, zaq, zar, zas, zat, zau, zav, zaw, zax, zay, zaz, zba, aUn, zbb, zbc, zbd, zbe, zbf, zbg, zbh, zbi, zbj, zbk, zbl, zbm, zbn, flat, simple, zbo, zbp, zbq, zbr, zbs, zbt, zbu, zbv, zbw, zbx, zby, zbz, zca, zcb, zcc, zcd, zce, zcf, zcg, zch, zci, zcj, zck, zcl, zcm, zcn, zco, zcp, zcq, zcr, Nat.reduceEqDiff, Nat.reduceLT, Nat.reduceAdd, Nat.reduceSub, reduceIte, Kt_P, zcs, zct, zcu, zcv, zcw, zcx, zcy, zcz, zda, zdb, zdc, zdd, zde, zdf, zdg, zdh, zdi, zdj, zdk, reduceCtorEq, zdl, zdm, zdn, goInt, zdo, zdp, zdq, zdr, zds, zdt, zdu, zdv, zdw, zdx, zdy, zdz, zea, zeb, zec, zed, zdk, zee, zef, zeg, zeh, zei, zej, zek, zel, zem, zen, zeo, zep, zeq, zer, zes, zet, zeu, zev, zew, zex, zey, ya, yb, yc, yd, ye, yf, ts_int, ts_int64, ts_bool, ts_ints, ts_post, ts_posts, yg, yh, yi, yj, yk, yl, ym, ts_intsl, ts_int64s, ts_bools, ts_side, ts_sideb, ts_pints, ts_pbool, aPure, aLen, ywa, ywb, ywc, ywd, ywe, ywf, ywg, ywh, ywi, ywj, ywk, ywl, ywm, ywn, ywo, ts_string, ts_u8, ts_u64, ts_error, ts_bytes, ts_arr, ts_reader, ts_pbuilder, ts_builder, cv_64_8, cv_8_64, cv_64_i64, cv_i64_64, cv_64_int, cv_int_64, errV_0, l1, herr]
      exact hq A 0 rfl (Fr.refl _ _) h rfl
    | false =>
      simp only [zaa, zab, zac, zad, zae, zaf, zag, zah, zai, zaj, zak, zal, zam, zan, zao, zap, zaq, zar, zas, zat, zau, zav, zaw, zax, zay, zaz, zba, aUn, zbb, zbc, zbd, zbe, zbf, zbg, zbh, zbi, zbj, zbk, zbl, zbm, zbn, flat, simple, zbo, zbp, zbq, zbr, zbs, zbt, zbu, zbv, zbw, zbx, zby, zbz, zca, zcb, zcc, zcd, zce, zcf, zcg, zch, zci, zcj, zck, zcl, zcm, zcn, zco, zcp, zcq, zcr, Nat.reduceEqDiff, Nat.reduceLT, Nat.reduceAdd, Nat.reduceSub, reduceIte, Kt_P, zcs, zct, zcu, zcv, zcw, zcx, zcy, zcz, zda, zdb, zdc, zdd, zde, zdf, zdg, zdh, zdi, zdj, zdk, reduceCtorEq, zdl, zdm, zdn, goInt, zdo, zdp, zdq, zdr, zds, zdt, zdu, zdv, zdw, zdx, zdy, zdz, zea, zeb, zec, zed, zdk, zee, zef, zeg, zeh, zei, zej, zek, zel, zem, zen, zeo, zep, zeq, zer, zes, zet, zeu, zev, zew, zex, zey, ya, yb, yc, yd, ye, yf, ts_int, ts_int64, ts_bool, ts_ints, ts_post, ts_posts, yg, yh, yi, yj, yk, yl, ym, ts_intsl, ts_int64s, ts_bools, ts_side, ts_sideb, ts_pints, ts_pbool, aPure, aLen, ywa, ywb, ywc, ywd, ywe, ywf, ywg, ywh, ywi, ywj, ywk, ywl, ywm, ywn, ywo, ts_string, ts_u8, ts_u64, ts_error, ts_bytes, ts_arr, ts_reader, ts_pbuilder, ts_builder, cv_64_8, cv_8_64, cv_64_i64, cv_i64_64, cv_64_int, cv_int_64, errV_0, l1, herr]
      refine OpW_store_of (o := 1) h ⟨rfl, rfl⟩ (by simp only [zaa, zab, zac, zad, zae, zaf, zag, zah, zai, zaj, zak, zal, zam, zan, zao, zap, zaq, zar, zas, zat, zau, zav, zaw, zax, zay, zaz, zba, aUn, zbb, zbc, zbd, zbe, zbf, zbg, zbh, zbi, zbj, zbk, zbl, zbm, zbn, flat, simple, zbo, zbp, zbq, zbr, zbs, zbt, zbu, zbv, zbw, zbx, zby, zbz, zca, zcb, zcc, zcd, zce, zcf, zcg, zch, zci, zcj, zck, zcl, zcm, zcn, zco, zcp, zcq, zcr, Nat.reduceEqDiff, Nat.reduceLT, Nat.reduceAdd, Nat.reduceSub, reduceIte, Kt_P, zcs, zct, zcu, zcv, zcw, zcx, zcy, zcz, zda, zdb, zdc, zdd, zde, zdf, zdg, zdh, zdi, zdj, zdk, reduceCtorEq, zdl, zdm, zdn, goInt, zdo, zdp, zdq, zdr, zds, zdt, zdu, zdv, zdw, zdx, zdy, zdz, zea, zeb, zec, zed, zdk, zee, zef, zeg, zeh, zei, zej, zek, zel, zem, zen, zeo, zep, zeq, zer, zes, zet, zeu, zev, zew, zex, zey, ya, yb, yc, yd, ye, yf, ts_int, ts_int64, ts_bool, ts_ints, ts_post, ts_posts, yg, yh, yi, yj, yk, yl, ym, ts_intsl, ts_int64s, ts_bools, ts_side, ts_sideb, ts_pints, ts_pbool, aPure, aLen, ywa, ywb, ywc, ywd, ywe, ywf, ywg, ywh, ywi, ywj, ywk, ywl, ywm, ywn, ywo, ts_string, ts_u8, ts_u64, ts_error, ts_bytes, ts_arr, ts_reader, ts_pbuilder, ts_builder, cv_64_8, cv_8_64, cv_64_i64, cv_i64_64, cv_64_int, cv_int_64, errV_0]) ts_error (Nat.le_refl _) rfl fun A1 hn1 hF1 hB1 => ?_
      simp only [zaa, zab, zac, zad, zae, zaf, zag, zah, zai, zaj, zak, zal, zam, zan, zao, zap, zaq, zar, zas, zat, zau, zav, zaw, zax, zay, zaz, zba, aUn, zbb, zbc, zbd, zbe, zbf, zbg, zbh, zbi, zbj, zbk, zbl, zbm, zbn, flat, simple, zbo, zbp, zbq, zbr, zbs, zbt, zbu, zbv, zbw, zbx, zby, zbz, zca, zcb, zcc, zcd, zce, zcf, zcg, zch, zci, zcj, zck, zcl, zcm, zcn, zco, zcp, zcq, zcr, Nat.reduceEqDiff, Nat.reduceLT, Nat.reduceAdd, Nat.reduceSub, reduceIte, Kt_P, zcs, zct, zcu, zcv, zcw, zcx, zcy, zcz, zda, zdb, zdc, zdd, zde, zdf, zdg, zdh, zdi, zdj, zdk, reduceCtorEq, zdl, zdm, zdn, goInt, zdo, zdp, zdq, zdr, zds, zdt, zdu, zdv, zdw, zdx, zdy, zdz, zea, zeb, zec, zed, zdk, zee, zef, zeg, zeh, zei, zej, zek, zel, zem, zen, zeo, zep, zeq, zer, zes, zet, zeu, zev, zew, zex, zey, ya, yb, yc, yd, ye, yf, ts_int, ts_int64, ts_bool, ts_ints, ts_post, ts_posts, yg, yh, yi, yj, yk, yl, ym, ts_intsl, ts_int64s, ts_bools, ts_side, ts_sideb, ts_pints, ts_pbool, aPure, aLen, ywa, ywb, ywc, ywd, ywe, ywf, ywg, ywh, ywi, ywj, ywk, ywl, ywm, ywn, ywo, ts_string, ts_u8, ts_u64, ts_error, ts_bytes, ts_arr, ts_reader, ts_pbuilder, ts_builder, cv_64_8, cv_8_64, cv_64_i64, cv_i64_64, cv_64_int, cv_int_64, errV_0]
      exact hq A1 4 hn1 hF1 hB1 rfl
  · have hd : decide (k = 0) = false := decide_eq_false hk
    simp only [zaa, zab, zac, zad, zae, zaf, zag, zah, zai, zaj, zak, zal, zam, zan, zao, zap, zaq, zar, zas, zat, zau, zav, zaw, zax, zay, zaz, zba, aUn, zbb, zbc, zbd, zbe, zbf, zbg, zbh, zbi, zbj, zbk, zbl, zbm, zbn, flat, simple, zbo, zbp, zbq, zbr, zbs, zbt, zbu, zbv, zbw, zbx, zby, zbz, zca, zcb, zcc, zcd, zce, zcf, zcg, zch, zci, zcj, zck, zcl, zcm, zcn, zco, zcp, zcq, zcr, Nat.reduceEqDiff, Nat.reduceLT, Nat.reduceAdd, Nat.reduceSub, reduceIte, Kt_P, zcs, zct, zcu, zcv, zcw, zcx, zcy, zcz, zda, zdb, zdc, zdd, zde, zdf, zdg, zdh, zdi, zdj, zdk, reduceCtorEq, zdl, zdm, zdn, goInt, zdo, zdp, zdq, zdr, zds, zdt, zdu, zdv, zdw, zdx, zdy, zdz, zea, zeb, zec, zed, zdk, zee, zef, zeg, zeh, zei, zej, zek, zel, zem, zen, zeo, zep, zeq, zer, zes, zet, zeu, zev, zew, zex, zey, ya, yb, yc, yd, ye, yf, ts_int, ts_int64, ts_bool, ts_ints, ts_post, ts_posts, yg, yh, yi, yj, yk, yl, ym, ts_intsl, ts_int64s, ts_bools, ts_side, ts_sideb, ts_pints, ts_pbool, aPure, aLen, ywa, ywb, ywc, ywd, ywe, ywf, ywg, ywh, ywi, ywj, ywk, ywl, ywm, ywn, ywo, ts_string, ts_u8, ts_u64, ts_error, ts_bytes, ts_arr, ts_reader, ts_pbuilder, ts_builder, cv_64_8, cv_8_64, cv_64_i64, cv_i64_64, cv_64_int, cv_int_64, errV_0, l1, err_eql, hd]
    exact hq A k rfl (Fr.refl _ _) h (by rw [if_neg (fun hc => hk hc.1)])

theorem each1_ok (A : AHeap) (b8 : Nat) (lv : Value) (L : List Int) (p : Int) (hB : Box A b8 42 [lv]) (hA : Acc A 3 1 lv L.length (ints L)) (hL : L.length ≤ 4000000) (hb : ∀ b, blockOf lv b → b ≠ b8) (Q : Value → AHeap → Prop)
    (hq : ∀ A' lv', Fr (fun j => j = b8 ∨ blockOf lv j) A A' → Box A' b8 42 [lv'] → Acc A' 3 1 lv' (L ++ [p]).length (ints (L ++ [p])) → (∀ b, blockOf lv' b → A.next ≤ b) → Q (.tuple #[]) A') :
    Cal Kt 62 #[.int .i64 p, .pointer (some ⟨b8, 0, none⟩)] A Q := by
  refine Cal_of (nt := 7) (rs := []) fn_each1 rfl rfl rfl (Nat.le_of_ble_eq_true rfl) ?_
  have l0 := hB.load (P := Tryd.prog) (o := 0) (t := 42) Tryd.underlying42 rfl rfl
  have hlt := hB.1
  obtain ⟨o, hv, _, _⟩ := hA.elems.opened
  subst hv
  simp only [zaa, zab, zac, zad, zae, zaf, zag, zah, zai, zaj, zak, zal, zam, zan, zao, zap, zaq, zar, zas, zat, zau, zav, zaw, zax, zay, zaz, zba, aUn, zbb, zbc, zbd, zbe, zbf, zbg, zbh, zbi, zbj, zbk, zbl, zbm, zbn, flat, simple, zbo, zbp, zbq, zbr, zbs, zbt, zbu, zbv, zbw, zbx, zby, zbz, zca, zcb, zcc, zcd, zce, zcf, zcg, zch, zci, zcj, zck, zcl, zcm, zcn, zco, zcp, zcq, zcr, Nat.reduceEqDiff, Nat.reduceLT, Nat.reduceAdd, Nat.reduceSub, reduceIte, Kt_P, zcs, zct, zcu, zcv, zcw, zcx, zcy, zcz, zda, zdb, zdc, zdd, zde, zdf, zdg, zdh, zdi, zdj, zdk, reduceCtorEq, zdl, zdm, zdn, goInt, zdo, zdp, zdq, zdr, zds, zdt, zdu, zdv, zdw, zdx, zdy, zdz, zea, zeb, zec, zed, zdk, zee, zef, zeg, zeh, zei, zej, zek, zel, zem, zen, zeo, zep, zeq, zer, zes, zet, zeu, zev, zew, zex, zey, ya, yb, yc, yd, ye, yf, ts_int, ts_int64, ts_bool, ts_ints, ts_post, ts_posts, yg, yh, yi, yj, yk, yl, ym, ts_intsl, ts_int64s, ts_bools, ts_side, ts_sideb, ts_pints, ts_pbool, aPure, aLen, ywa, ywb, ywc, ywd, ywe, ywf, ywg, ywh, ywi, ywj, ywk, ywl, ywm, ywn, ywo, ts_string, ts_u8, ts_u64, ts_error, ts_bytes, ts_arr, ts_reader, ts_pbuilder, ts_builder, cv_64_8, cv_8_64, cv_64_i64, cv_i64_64, cv_64_int, cv_int_64, errV_0, l0]
  refine OpW_buildSlice_of (cs := [.int .i64 p]) Tryd.underlying42 ts_int tz_int (by decide) rfl rfl rfl fun q1 A1 hq1 hm1 hF1 hQ1 => ?_
  simp only [zaa, zab, zac, zad, zae, zaf, zag, zah, zai, zaj, zak, zal, zam, zan, zao, zap, zaq, zar, zas, zat, zau, zav, zaw, zax, zay, zaz, zba, aUn, zbb, zbc, zbd, zbe, zbf, zbg, zbh, zbi, zbj, zbk, zbl, zbm, zbn, flat, simple, zbo, zbp, zbq, zbr, zbs, zbt, zbu, zbv, zbw, zbx, zby, zbz, zca, zcb, zcc, zcd, zce, zcf, zcg, zch, zci, zcj, zck, zcl, zcm, zcn, zco, zcp, zcq, zcr, Nat.reduceEqDiff, Nat.reduceLT, Nat.reduceAdd, Nat.reduceSub, reduceIte, Kt_P, zcs, zct, zcu, zcv, zcw, zcx, zcy, zcz, zda, zdb, zdc, zdd, zde, zdf, zdg, zdh, zdi, zdj, zdk, reduceCtorEq, zdl, zdm, zdn, goInt, zdo, zdp, zdq, zdr, zds, zdt, zdu, zdv, zdw, zdx, zdy, zdz, zea, zeb, zec, zed, zdk, zee, zef, zeg, zeh, zei, zej, zek, zel, zem, zen, zeo, zep, zeq, zer, zes, zet, zeu, zev, zew, zex, zey, ya, yb, yc, yd, ye, yf, ts_int, ts_int64, ts_bool, ts_ints, ts_post, ts_posts, yg, yh, yi, yj, yk, yl, ym, ts_intsl, ts_int64s, ts_bools, ts_side, ts_sideb, ts_pints, ts_pbool, aPure, aLen, ywa, ywb, ywc, ywd, ywe, ywf, ywg, ywh, ywi, ywj, ywk, ywl, ywm, ywn, ywo, ts_string, ts_u8, ts_u64, ts_error, ts_bytes, ts_arr, ts_reader, ts_pbuilder, ts_builder, cv_64_8, cv_8_64, cv_64_i64, cv_i64_64, cv_64_int, cv_int_64, errV_0]
  refine OpW_append_of (n := L.length) (k := 1) ⟨rfl, rfl⟩ Tryd.underlying42 (by rw [Kt_P, Tryd.underlying42]; rfl) ts_int tb_int tz_int (by simp only [zaa, zab, zac, zad, zae, zaf, zag, zah, zai, zaj, zak, zal, zam, zan, zao, zap, zaq, zar, zas, zat, zau, zav, zaw, zax, zay, zaz, zba, aUn, zbb, zbc, zbd, zbe, zbf, zbg, zbh, zbi, zbj, zbk, zbl, zbm, zbn, flat, simple, zbo, zbp, zbq, zbr, zbs, zbt, zbu, zbv, zbw, zbx, zby, zbz, zca, zcb, zcc, zcd, zce, zcf, zcg, zch, zci, zcj, zck, zcl, zcm, zcn, zco, zcp, zcq, zcr, Nat.reduceEqDiff, Nat.reduceLT, Nat.reduceAdd, Nat.reduceSub, reduceIte, Kt_P, zcs, zct, zcu, zcv, zcw, zcx, zcy, zcz, zda, zdb, zdc, zdd, zde, zdf, zdg, zdh, zdi, zdj, zdk, reduceCtorEq, zdl, zdm, zdn, goInt, zdo, zdp, zdq, zdr, zds, zdt, zdu, zdv, zdw, zdx, zdy, zdz, zea, zeb, zec, zed, zdk, zee, zef, zeg, zeh, zei, zej, zek, zel, zem, zen, zeo, zep, zeq, zer, zes, zet, zeu, zev, zew, zex, zey, ya, yb, yc, yd, ye, yf, ts_int, ts_int64, ts_bool, ts_ints, ts_post, ts_posts, yg, yh, yi, yj, yk, yl, ym, ts_intsl, ts_int64s, ts_bools, ts_side, ts_sideb, ts_pints, ts_pbool, aPure, aLen, ywa, ywb, ywc, ywd, ywe, ywf, ywg, ywh, ywi, ywj, ywk, ywl, ywm, ywn, ywo, ts_string, ts_u8, ts_u64, ts_error, ts_bytes, ts_arr, ts_reader, ts_pbuilder, ts_builder, cv_64_8, cv_8_64, cv_64_i64, cv_i64_64, cv_64_int, cv_int_64, errV_0]; exact aSrc_box hQ1 rfl) ⟨rfl, rfl⟩ (by omega)
    ⟨by omega, rfl, by omega, by omega⟩ (hA.fr hF1 fun _ _ h => h) fun q2 A2 hq2 hm2 hF2 hA2 => ?_
  simp only [zaa, zab, zac, zad, zae, zaf, zag, zah, zai, zaj, zak, zal, zam, zan, zao, zap, zaq, zar, zas, zat, zau, zav, zaw, zax, zay, zaz, zba, aUn, zbb, zbc, zbd, zbe, zbf, zbg, zbh, zbi, zbj, zbk, zbl, zbm, zbn, flat, simple, zbo, zbp, zbq, zbr, zbs, zbt, zbu, zbv, zbw, zbx, zby, zbz, zca, zcb, zcc, zcd, zce, zcf, zcg, zch, zci, zcj, zck, zcl, zcm, zcn, zco, zcp, zcq, zcr, Nat.reduceEqDiff, Nat.reduceLT, Nat.reduceAdd, Nat.reduceSub, reduceIte, Kt_P, zcs, zct, zcu, zcv, zcw, zcx, zcy, zcz, zda, zdb, zdc, zdd, zde, zdf, zdg, zdh, zdi, zdj, zdk, reduceCtorEq, zdl, zdm, zdn, goInt, zdo, zdp, zdq, zdr, zds, zdt, zdu, zdv, zdw, zdx, zdy, zdz, zea, zeb, zec, zed, zdk, zee, zef, zeg, zeh, zei, zej, zek, zel, zem, zen, zeo, zep, zeq, zer, zes, zet, zeu, zev, zew, zex, zey, ya, yb, yc, yd, ye, yf, ts_int, ts_int64, ts_bool, ts_ints, ts_post, ts_posts, yg, yh, yi, yj, yk, yl, ym, ts_intsl, ts_int64s, ts_bools, ts_side, ts_sideb, ts_pints, ts_pbool, aPure, aLen, ywa, ywb, ywc, ywd, ywe, ywf, ywg, ywh, ywi, ywj, ywk, ywl, ywm, ywn, ywo, ts_string, ts_u8, ts_u64, ts_error, ts_bytes, ts_arr, ts_reader, ts_pbuilder, ts_builder, cv_64_8, cv_8_64, cv_64_i64, cv_i64_64, cv_64_int, cv_int_64, errV_0] at hF2 hA2 ⊢
  have hB2 := hF2.box (hF1.box hB fun h => h) fun h => hb b8 h rfl
  refine OpW_store_of (o := 0) hB2 ⟨rfl, rfl⟩ (by simp only [zaa, zab, zac, zad, zae, zaf, zag, zah, zai, zaj, zak, zal, zam, zan, zao, zap, zaq, zar, zas, zat, zau, zav, zaw, zax, zay, zaz, zba, aUn, zbb, zbc, zbd, zbe, zbf, zbg, zbh, zbi, zbj, zbk, zbl, zbm, zbn, flat, simple, zbo, zbp, zbq, zbr, zbs, zbt, zbu, zbv, zbw, zbx, zby, zbz, zca, zcb, zcc, zcd, zce, zcf, zcg, zch, zci, zcj, zck, zcl, zcm, zcn, zco, zcp, zcq, zcr, Nat.reduceEqDiff, Nat.reduceLT, Nat.reduceAdd, Nat.reduceSub, reduceIte, Kt_P, zcs, zct, zcu, zcv, zcw, zcx, zcy, zcz, zda, zdb, zdc, zdd, zde, zdf, zdg, zdh, zdi, zdj, zdk, reduceCtorEq, zdl, zdm, zdn, goInt, zdo, zdp, zdq, zdr, zds, zdt, zdu, zdv, zdw, zdx, zdy, zdz, zea, zeb, zec, zed, zdk, zee, zef, zeg, zeh, zei, zej, zek, zel, zem, zen, zeo, zep, zeq, zer, zes, zet, zeu, zev, zew, zex, zey, ya, yb, yc, yd, ye, yf, ts_int, ts_int64, ts_bool, ts_ints, ts_post, ts_posts, yg, yh, yi, yj, yk, yl, ym, ts_intsl, ts_int64s, ts_bools, ts_side, ts_sideb, ts_pints, ts_pbool, aPure, aLen, ywa, ywb, ywc, ywd, ywe, ywf, ywg, ywh, ywi, ywj, ywk, ywl, ywm, ywn, ywo, ts_string, ts_u8, ts_u64, ts_error, ts_bytes, ts_arr, ts_reader, ts_pbuilder, ts_builder, cv_64_8, cv_8_64, cv_64_i64, cv_i64_64, cv_64_int, cv_int_64, errV_0]) ts_ints (Nat.le_refl _) rfl fun A3 hm3 hF3 hB3 => ?_
  replace hB3 : Box A3 b8 42 [.slice (some ⟨q2, 0, none⟩) (L.length + 1) (L.length + 1)] := hB3
  simp only [zaa, zab, zac, zad, zae, zaf, zag, zah, zai, zaj, zak, zal, zam, zan, zao, zap, zaq, zar, zas, zat, zau, zav, zaw, zax, zay, zaz, zba, aUn, zbb, zbc, zbd, zbe, zbf, zbg, zbh, zbi, zbj, zbk, zbl, zbm, zbn, flat, simple, zbo, zbp, zbq, zbr, zbs, zbt, zbu, zbv, zbw, zbx, zby, zbz, zca, zcb, zcc, zcd, zce, zcf, zcg, zch, zci, zcj, zck, zcl, zcm, zcn, zco, zcp, zcq, zcr, Nat.reduceEqDiff, Nat.reduceLT, Nat.reduceAdd, Nat.reduceSub, reduceIte, Kt_P, zcs, zct, zcu, zcv, zcw, zcx, zcy, zcz, zda, zdb, zdc, zdd, zde, zdf, zdg, zdh, zdi, zdj, zdk, reduceCtorEq, zdl, zdm, zdn, goInt, zdo, zdp, zdq, zdr, zds, zdt, zdu, zdv, zdw, zdx, zdy, zdz, zea, zeb, zec, zed, zdk, zee, zef, zeg, zeh, zei, zej, zek, zel, zem, zen, zeo, zep, zeq, zer, zes, zet, zeu, zev, zew, zex, zey, ya, yb, yc, yd, ye, yf, ts_int, ts_int64, ts_bool, ts_ints, ts_post, ts_posts, yg, yh, yi, yj, yk, yl, ym, ts_intsl, ts_int64s, ts_bools, ts_side, ts_sideb, ts_pints, ts_pbool, aPure, aLen, ywa, ywb, ywc, ywd, ywe, ywf, ywg, ywh, ywi, ywj, ywk, ywl, ywm, ywn, ywo, ts_string, ts_u8, ts_u64, ts_error, ts_bytes, ts_arr, ts_reader, ts_pbuilder, ts_builder, cv_64_8, cv_8_64, cv_64_i64, cv_i64_64, cv_64_int, cv_int_64, errV_0]
  have hA3 := hA2.fr hF3 fun b hb hc => by simp only [blockOf] at hb; omega
  refine hq A3 _ ((hF1.fr.trans hF2 fun b _ h => .inr h).trans hF3 fun b _ h => .inl h) hB3 ?_ fun b hb => by simp only [blockOf] at hb; omega
  simpa [ints] using hA3

theorem i64_in (x : Int) : inI64 (IntKind.i64.wrap x) := by
  unfold inI64
  simp [IntKind.wrap, IntKind.signed, IntKind.bits]
  split <;> omega
theorem u64_nat (x : Int) : ∃ n : Nat, IntKind.u64.wrap x = (n : Int) ∧ n < 18446744073709551616 := ⟨(IntKind.u64.wrap x).toNat, by rw [wrap_u64']; omega, by rw [wrap_u64']; omega⟩


theorem places_ok (A : AHeap) (br b8 : Nat) (s : ByteArray) (k : Nat) (h : Rdr A br s k) (hs : (bl s).length ≤ 2000000) (hB : Box A b8 42 [.slice none 0 0]) (hne : br ≠ b8) (Q : Value → AHeap → Prop)
    (hq : ∀ A' s' k' lv L, Fr (fun j => j = br ∨ j = b8) A A' → Rdr A' br s' k' → Box A' b8 42 [lv] → Acc A' 3 1 lv L.length (ints L) → (∀ b, blockOf lv b → A.next ≤ b) →
      ((k ≠ 0 ∧ k' = k) ∨ (k = 0 ∧ k' = (plOut (bl s)).1 ∧ (k' = 0 → bl s' = (plOut (bl s)).2.1 ∧ L = (plOut (bl s)).2.2 ∧ (∀ x ∈ L, inI64 x) ∧ L.length + (bl s').length ≤ 2000000))) → Q (.tuple #[]) A') :
    Cal Kt 61 #[.pointer (some ⟨br, 0, none⟩), .func (.func 62) #[] #[.pointer (some ⟨b8, 0, none⟩)]] A Q := by
  refine Cal_of (nt := 45) (rs := []) fn_places rfl rfl rfl (Nat.le_of_ble_eq_true rfl) ?_
  simp only [zaa, zab, zac, zad, zae, zaf, zag, zah, zai, zaj, zak, zal, zam, zan, zao, zap, zaq, zar, zas, zat, zau, zav, zaw, zax, zay, zaz, zba, aUn, zbb, zbc, zbd, zbe, zbf, zbg, zbh, zbi, zbj, zbk, zbl, zbm, zbn, flat, simple, zbo, zbp, zbq, zbr, zbs, zbt, zbu, zbv, zbw, zbx, zby, zbz, zca, zcb, zcc, zcd, zce, zcf, zcg, zch, zci, zcj, zck, zcl, zcm, zcn, zco, zcp, zcq, zcr, Nat.reduceEqDiff, Nat.reduceLT, Nat.reduceAdd, Nat.reduceSub, reduceIte, Kt_P, zcs, zct, zcu, zcv, zcw, zcx, zcy, zcz, zda, zdb, zdc, zdd, zde, zdf, zdg, zdh, zdi, zdj, zdk, reduceCtorEq, zdl, zdm, zdn, goInt, zdo, zdp, zdq, zdr, zds, zdt, zdu, zdv, zdw, zdx, zdy, zdz, zea, zeb, zec, zed, zdk, zee, zef, zeg, zeh, zei, zej, zek, zel, zem, zen, zeo, zep, zeq, zer, zes, zet, zeu, zev, zew, zex, zey, ya, yb, yc, yd, ye, yf, ts_int, ts_int64, ts_bool, ts_ints, ts_post, ts_posts, yg, yh, yi, yj, yk, yl, ym, ts_intsl, ts_int64s, ts_bools, ts_side, ts_sideb, ts_pints, ts_pbool, aPure, aLen, ywa, ywb, ywc, ywd, ywe, ywf, ywg, ywh, ywi, ywj, ywk, ywl, ywm, ywn, ywo, ts_string, ts_u8, ts_u64, ts_error, ts_bytes, ts_arr, ts_reader, ts_pbuilder, ts_builder, cv_64_8, cv_8_64, cv_64_i64, cv_i64_64, cv_64_int, cv_int_64, errV_0]
  rw [CalF_cal (Kt_prim (by decide) _ _)]
  refine runi_ok A br s k h _ fun A1 s0 k0 n hn1 hF1 hR1 hc n64 => ?_
  simp only [zaa, zab, zac, zad, zae, zaf, zag, zah, zai, zaj, zak, zal, zam, zan, zao, zap, zaq, zar, zas, zat, zau, zav, zaw, zax, zay, zaz, zba, aUn, zbb, zbc, zbd, zbe, zbf, zbg, zbh, zbi, zbj, zbk, zbl, zbm, zbn, flat, simple, zbo, zbp, zbq, zbr, zbs, zbt, zbu, zbv, zbw, zbx, zby, zbz, zca, zcb, zcc, zcd, zce, zcf, zcg, zch, zci, zcj, zck, zcl, zcm, zcn, zco, zcp, zcq, zcr, Nat.reduceEqDiff, Nat.reduceLT, Nat.reduceAdd, Nat.reduceSub, reduceIte, Kt_P, zcs, zct, zcu, zcv, zcw, zcx, zcy, zcz, zda, zdb, zdc, zdd, zde, zdf, zdg, zdh, zdi, zdj, zdk, reduceCtorEq, zdl, zdm, zdn, goInt, zdo, zdp, zdq, zdr, zds, zdt, zdu, zdv, zdw, zdx, zdy, zdz, zea, zeb, zec, zed, zdk, zee, zef, zeg, zeh, zei, zej, zek, zel, zem, zen, zeo, zep, zeq, zer, zes, zet, zeu, zev, zew, zex, zey, ya, yb, yc, yd, ye, yf, ts_int, ts_int64, ts_bool, ts_ints, ts_post, ts_posts, yg, yh, yi, yj, yk, yl, ym, ts_intsl, ts_int64s, ts_bools, ts_side, ts_sideb, ts_pints, ts_pbool, aPure, aLen, ywa, ywb, ywc, ywd, ywe, ywf, ywg, ywh, ywi, ywj, ywk, ywl, ywm, ywn, ywo, ts_string, ts_u8, ts_u64, ts_error, ts_bytes, ts_arr, ts_reader, ts_pbuilder, ts_builder, cv_64_8, cv_8_64, cv_64_i64, cv_i64_64, cv_64_int, cv_int_64, errV_0]
  have hB1 := hF1.box hB (by omega)
  refine Lop_inv (fun m e G => ∃ (kk ahead : Nat) (s' : ByteArray) (k' : Nat) (lv : Value) (L : List Int), (e 0 = .pointer (some ⟨br, 0, none⟩) ∧ e 1 = .func (.func 62) #[] #[.pointer (some ⟨b8, 0, none⟩)] ∧ e 4 = .int .u64 n ∧ e 5 = .int .u64 ahead ∧ e 6 = .int .u64 kk) ∧
      m = (if k' = 0 then (bl s').length + 1 else 0) ∧ A.next ≤ G.next ∧ Fr (fun j => j = br ∨ j = b8) A G ∧ Rdr G br s' k' ∧ Box G b8 42 [lv] ∧ Acc G 3 1 lv L.length (ints L) ∧ (∀ b, blockOf lv b → A.next ≤ b ∧ b ≠ br ∧ b ≠ b8) ∧
      kk ≤ n ∧ ahead < 18446744073709551616 ∧ ((k ≠ 0 ∧ k' = k ∧ n = 0) ∨ (k = 0 ∧ k' ≠ 0 ∧ k' = (plOut (bl s)).1) ∨
        (k = 0 ∧ k' = 0 ∧ (∃ f, (bl s').length < f ∧ pF f kk n ahead (bl s') L = plOut (bl s)) ∧ ahead ≤ 9223372036854775807 ∧ L.length = kk ∧ (∀ x ∈ L, inI64 x) ∧ L.length + (bl s').length ≤ 2000000)))
    ?_ (if k0 = 0 then (bl s0).length + 1 else 0) _ _ ⟨0, 0, s0, k0, .slice none 0 0, [], by simp [put_at, argEnv], rfl, by omega, hF1.weaken fun b _ h => .inl h, hR1, hB1, ⟨rfl, .inl ⟨rfl, rfl⟩⟩, fun b h => h.elim, by omega, by omega, ?_⟩
  · rintro m e G ⟨kk, ahead, s', k', lv, L, ⟨e0, e1, e4, e5, e6⟩, rfl, hFG, hF, hR, hB8, hA, hblk, hkn, ha64, hcase⟩
    have l1 := hR.load (P := Tryd.prog) (o := 1) (t := 26) Tryd.underlying26 rfl rfl
    have hend : (k' ≠ 0 ∨ ¬ kk < n) → Q (.tuple #[]) G := by
      intro hor
      refine hq G s' k' lv L hF hR hB8 hA (fun b hb => (hblk b hb).1) ?_
      rcases hcase with ⟨c1, c2, c3⟩ | ⟨c1, c2, c3⟩ | ⟨c1, c2, ⟨f, c3, c4⟩, c5, c6, c7, c8⟩
      · exact .inl ⟨c1, c2⟩
      · exact .inr ⟨c1, c3, fun h0 => absurd h0 c2⟩
      · have hnk := hor.resolve_left (fun h => h c2)
        obtain ⟨f0, rfl⟩ : ∃ f0, f = f0 + 1 := ⟨f - 1, by omega⟩
        rw [pF, if_neg hnk] at c4
        rw [← c4]
        exact .inr ⟨c1, c2, fun _ => ⟨rfl, rfl, c7, c8⟩⟩
    simp only [zaa, zab, zac, zad, zae, zaf, zag, zah, zai, zaj, zak, zal, zam, zan, zao, zap, zaq, zar, zas, zat, zau, zav, zaw, zax, zay, zaz, zba, aUn, zbb, zbc, zbd, zbe, zbf, zbg, zbh, zbi, zbj, zbk, zbl, zbm, zbn, flat, simple, zbo, zbp, zbq, zbr, zbs, zbt, zbu, zbv, zbw, zbx, zby, zbz, zca, zcb, zcc, zcd, zce, zcf, zcg, zch, zci, zcj, zck, zcl, zcm, zcn, zco, zcp, zcq, zcr, Nat.reduceEqDiff, Nat.reduceLT, Nat.reduceAdd, Nat.reduceSub, reduceIte, Kt_P, zcs, zct, zcu, zcv, zcw, zcx, zcy, zcz, zda, zdb, zdc, zdd, zde, zdf, zdg, zdh, zdi, zdj, zdk, reduceCtorEq, zdl, zdm, zdn, goInt, zdo, zdp, zdq, zdr, zds, zdt, zdu, zdv, zdw, zdx, zdy, zdz, zea, zeb, zec, zed, zdk, zee, zef, zeg, zeh, zei, zej, zek, zel, zem, zen, zeo, zep, zeq, zer, zes, zet, zeu, zev, zew, zex, zey, ya, yb, yc, yd, ye, yf, ts_int, ts_int64, ts_bool, ts_ints, ts_post, ts_posts, yg, yh, yi, yj, yk, yl, ym, ts_intsl, ts_int64s, ts_bools, ts_side, ts_sideb, ts_pints, ts_pbool, aPure, aLen, ywa, ywb, ywc, ywd, ywe, ywf, ywg, ywh, ywi, ywj, ywk, ywl, ywm, ywn, ywo, ts_string, ts_u8, ts_u64, ts_error, ts_bytes, ts_arr, ts_reader, ts_pbuilder, ts_builder, cv_64_8, cv_8_64, cv_64_i64, cv_i64_64, cv_64_int, cv_int_64, errV_0, e0, e1, e4, e5, e6]
    refine Grd_of (fun hlt => ?_) (fun hge => ?_)
    · have hlt' : kk < n := by omega
      simp only [zaa, zab, zac, zad, zae, zaf, zag, zah, zai, zaj, zak, zal, zam, zan, zao, zap, zaq, zar, zas, zat, zau, zav, zaw, zax, zay, zaz, zba, aUn, zbb, zbc, zbd, zbe, zbf, zbg, zbh, zbi, zbj, zbk, zbl, zbm, zbn, flat, simple, zbo, zbp, zbq, zbr, zbs, zbt, zbu, zbv, zbw, zbx, zby, zbz, zca, zcb, zcc, zcd, zce, zcf, zcg, zch, zci, zcj, zck, zcl, zcm, zcn, zco, zcp, zcq, zcr, Nat.reduceEqDiff, Nat.reduceLT, Nat.reduceAdd, Nat.reduceSub, reduceIte, Kt_P, zcs, zct, zcu, zcv, zcw, zcx, zcy, zcz, zda, zdb, zdc, zdd, zde, zdf, zdg, zdh, zdi, zdj, zdk, reduceCtorEq, zdl, zdm, zdn, goInt, zdo, zdp, zdq, zdr, zds, zdt, zdu, zdv, zdw, zdx, zdy, zdz, zea, zeb, zec, zed, zdk, zee, zef, zeg, zeh, zei, zej, zek, zel, zem, zen, zeo, zep, zeq, zer, zes, zet, zeu, zev, zew, zex, zey, ya, yb, yc, yd, ye, yf, ts_int, ts_int64, ts_bool, ts_ints, ts_post, ts_posts, yg, yh, yi, yj, yk, yl, ym, ts_intsl, ts_int64s, ts_bools, ts_side, ts_sideb, ts_pints, ts_pbool, aPure, aLen, ywa, ywb, ywc, ywd, ywe, ywf, ywg, ywh, ywi, ywj, ywk, ywl, ywm, ywn, ywo, ts_string, ts_u8, ts_u64, ts_error, ts_bytes, ts_arr, ts_reader, ts_pbuilder, ts_builder, cv_64_8, cv_8_64, cv_64_i64, cv_i64_64, cv_64_int, cv_int_64, errV_0, e0, e1, e4, e5, e6, hlt, l1, err_eql]
      refine Way_of (fun hk0 => ?_) (fun hk0 => ?_)
      · rcases hcase with ⟨c1, c2, c3⟩ | ⟨c1, c2, c3⟩ | ⟨c1, c2, ⟨f, c3, c4⟩, c5, c6, c7, c8⟩
        · omega
        · exact absurd hk0 c2
        subst hk0
        obtain ⟨f0, rfl⟩ : ∃ f0, f = f0 + 1 := ⟨f - 1, by omega⟩
        rw [pF, if_pos hlt'] at c4
        simp only [zaa, zab, zac, zad, zae, zaf, zag, zah, zai, zaj, zak, zal, zam, zan, zao, zap, zaq, zar, zas, zat, zau, zav, zaw, zax, zay, zaz, zba, aUn, zbb, zbc, zbd, zbe, zbf, zbg, zbh, zbi, zbj, zbk, zbl, zbm, zbn, flat, simple, zbo, zbp, zbq, zbr, zbs, zbt, zbu, zbv, zbw, zbx, zby, zbz, zca, zcb, zcc, zcd, zce, zcf, zcg, zch, zci, zcj, zck, zcl, zcm, zcn, zco, zcp, zcq, zcr, Nat.reduceEqDiff, Nat.reduceLT, Nat.reduceAdd, Nat.reduceSub, reduceIte, Kt_P, zcs, zct, zcu, zcv, zcw, zcx, zcy, zcz, zda, zdb, zdc, zdd, zde, zdf, zdg, zdh, zdi, zdj, zdk, reduceCtorEq, zdl, zdm, zdn, goInt, zdo, zdp, zdq, zdr, zds, zdt, zdu, zdv, zdw, zdx, zdy, zdz, zea, zeb, zec, zed, zdk, zee, zef, zeg, zeh, zei, zej, zek, zel, zem, zen, zeo, zep, zeq, zer, zes, zet, zeu, zev, zew, zex, zey, ya, yb, yc, yd, ye, yf, ts_int, ts_int64, ts_bool, ts_ints, ts_post, ts_posts, yg, yh, yi, yj, yk, yl, ym, ts_intsl, ts_int64s, ts_bools, ts_side, ts_sideb, ts_pints, ts_pbool, aPure, aLen, ywa, ywb, ywc, ywd, ywe, ywf, ywg, ywh, ywi, ywj, ywk, ywl, ywm, ywn, ywo, ts_string, ts_u8, ts_u64, ts_error, ts_bytes, ts_arr, ts_reader, ts_pbuilder, ts_builder, cv_64_8, cv_8_64, cv_64_i64, cv_i64_64, cv_64_int, cv_int_64, errV_0, e0]
        rw [CalF_cal (Kt_prim (by decide) _ _)]
        refine runi_ok G br s' 0 hR _ fun G1 s1 k1 x hn1 hF1 hR1 hc x64 => ?_
        rcases hc with ⟨hc, _⟩ | ⟨_, hx, hk1, hs1⟩
        · exact absurd rfl hc
        rw [← hx, ← hk1, ← hs1] at c4
        have hsub : IntKind.u64.wrap (9223372036854775807 - (ahead : Int)) = ((9223372036854775807 - ahead : Nat) : Int) := by rw [wrap_u64 (by omega)]; omega
        have hxi : ∀ j : Nat, ((x : Int) ≤ (j : Int)) = (x ≤ j) := fun j => propext (by omega)
        have hx0 : ((0 : Int) < (x : Int)) = (0 < x) := propext (by omega)
        have hkk0 : ((kk : Int) = 0) = (kk = 0) := propext (by omega)
        simp only [zaa, zab, zac, zad, zae, zaf, zag, zah, zai, zaj, zak, zal, zam, zan, zao, zap, zaq, zar, zas, zat, zau, zav, zaw, zax, zay, zaz, zba, aUn, zbb, zbc, zbd, zbe, zbf, zbg, zbh, zbi, zbj, zbk, zbl, zbm, zbn, flat, simple, zbo, zbp, zbq, zbr, zbs, zbt, zbu, zbv, zbw, zbx, zby, zbz, zca, zcb, zcc, zcd, zce, zcf, zcg, zch, zci, zcj, zck, zcl, zcm, zcn, zco, zcp, zcq, zcr, Nat.reduceEqDiff, Nat.reduceLT, Nat.reduceAdd, Nat.reduceSub, reduceIte, Kt_P, zcs, zct, zcu, zcv, zcw, zcx, zcy, zcz, zda, zdb, zdc, zdd, zde, zdf, zdg, zdh, zdi, zdj, zdk, reduceCtorEq, zdl, zdm, zdn, goInt, zdo, zdp, zdq, zdr, zds, zdt, zdu, zdv, zdw, zdx, zdy, zdz, zea, zeb, zec, zed, zdk, zee, zef, zeg, zeh, zei, zej, zek, zel, zem, zen, zeo, zep, zeq, zer, zes, zet, zeu, zev, zew, zex, zey, ya, yb, yc, yd, ye, yf, ts_int, ts_int64, ts_bool, ts_ints, ts_post, ts_posts, yg, yh, yi, yj, yk, yl, ym, ts_intsl, ts_int64s, ts_bools, ts_side, ts_sideb, ts_pints, ts_pbool, aPure, aLen, ywa, ywb, ywc, ywd, ywe, ywf, ywg, ywh, ywi, ywj, ywk, ywl, ywm, ywn, ywo, ts_string, ts_u8, ts_u64, ts_error, ts_bytes, ts_arr, ts_reader, ts_pbuilder, ts_builder, cv_64_8, cv_8_64, cv_64_i64, cv_i64_64, cv_64_int, cv_int_64, errV_0, e0, e5, e6, hx0, hkk0, hsub]
        have hdec : k1 = 0 → (bl s1).length < (bl s').length := fun h0 => by rw [hs1]; exact (rdU_one (by rw [← hk1]; exact h0)).2.1
        by_cases p1 : 0 < x
        · have q1 : (0 < x) = True := eq_true p1
          by_cases p3 : x ≤ 9223372036854775807 - ahead
          · have q3 : ((x : Int) ≤ ((9223372036854775807 - ahead : Nat) : Int)) = True := eq_true (by omega)
            simp only [zaa, zab, zac, zad, zae, zaf, zag, zah, zai, zaj, zak, zal, zam, zan, zao, zap, zaq, zar, zas, zat, zau, zav, zaw, zax, zay, zaz, zba, aUn, zbb, zbc, zbd, zbe, zbf, zbg, zbh, zbi, zbj, zbk, zbl, zbm, zbn, flat, simple, zbo, zbp, zbq, zbr, zbs, zbt, zbu, zbv, zbw, zbx, zby, zbz, zca, zcb, zcc, zcd, zce, zcf, zcg, zch, zci, zcj, zck, zcl, zcm, zcn, zco, zcp, zcq, zcr, Nat.reduceEqDiff, Nat.reduceLT, Nat.reduceAdd, Nat.reduceSub, reduceIte, Kt_P, zcs, zct, zcu, zcv, zcw, zcx, zcy, zcz, zda, zdb, zdc, zdd, zde, zdf, zdg, zdh, zdi, zdj, zdk, reduceCtorEq, zdl, zdm, zdn, goInt, zdo, zdp, zdq, zdr, zds, zdt, zdu, zdv, zdw, zdx, zdy, zdz, zea, zeb, zec, zed, zdk, zee, zef, zeg, zeh, zei, zej, zek, zel, zem, zen, zeo, zep, zeq, zer, zes, zet, zeu, zev, zew, zex, zey, ya, yb, yc, yd, ye, yf, ts_int, ts_int64, ts_bool, ts_ints, ts_post, ts_posts, yg, yh, yi, yj, yk, yl, ym, ts_intsl, ts_int64s, ts_bools, ts_side, ts_sideb, ts_pints, ts_pbool, aPure, aLen, ywa, ywb, ywc, ywd, ywe, ywf, ywg, ywh, ywi, ywj, ywk, ywl, ywm, ywn, ywo, ts_string, ts_u8, ts_u64, ts_error, ts_bytes, ts_arr, ts_reader, ts_pbuilder, ts_builder, cv_64_8, cv_8_64, cv_64_i64, cv_i64_64, cv_64_int, cv_int_64, errV_0, e0, e5, e6, q1, q3, hsub]
            rw [CalF_cal (Kt_prim (by decide) _ _)]
            refine form_ok G1 br s1 k1 _ hR1 _ fun G2 k2 hn2 hF2 hR2 hk2 => ?_
            obtain ⟨y, hy, hy64⟩ := u64_nat ((ahead : Int) + (x : Int))
            obtain ⟨z, hz⟩ : ∃ z, IntKind.i64.wrap (y : Int) = z := ⟨_, rfl⟩
            have hsucc : IntKind.u64.wrap ((kk : Int) + 1) = ((kk + 1 : Nat) : Int) := by rw [wrap_u64 (by omega)]; omega
            simp only [zaa, zab, zac, zad, zae, zaf, zag, zah, zai, zaj, zak, zal, zam, zan, zao, zap, zaq, zar, zas, zat, zau, zav, zaw, zax, zay, zaz, zba, aUn, zbb, zbc, zbd, zbe, zbf, zbg, zbh, zbi, zbj, zbk, zbl, zbm, zbn, flat, simple, zbo, zbp, zbq, zbr, zbs, zbt, zbu, zbv, zbw, zbx, zby, zbz, zca, zcb, zcc, zcd, zce, zcf, zcg, zch, zci, zcj, zck, zcl, zcm, zcn, zco, zcp, zcq, zcr, Nat.reduceEqDiff, Nat.reduceLT, Nat.reduceAdd, Nat.reduceSub, reduceIte, Kt_P, zcs, zct, zcu, zcv, zcw, zcx, zcy, zcz, zda, zdb, zdc, zdd, zde, zdf, zdg, zdh, zdi, zdj, zdk, reduceCtorEq, zdl, zdm, zdn, goInt, zdo, zdp, zdq, zdr, zds, zdt, zdu, zdv, zdw, zdx, zdy, zdz, zea, zeb, zec, zed, zdk, zee, zef, zeg, zeh, zei, zej, zek, zel, zem, zen, zeo, zep, zeq, zer, zes, zet, zeu, zev, zew, zex, zey, ya, yb, yc, yd, ye, yf, ts_int, ts_int64, ts_bool, ts_ints, ts_post, ts_posts, yg, yh, yi, yj, yk, yl, ym, ts_intsl, ts_int64s, ts_bools, ts_side, ts_sideb, ts_pints, ts_pbool, aPure, aLen, ywa, ywb, ywc, ywd, ywe, ywf, ywg, ywh, ywi, ywj, ywk, ywl, ywm, ywn, ywo, ts_string, ts_u8, ts_u64, ts_error, ts_bytes, ts_arr, ts_reader, ts_pbuilder, ts_builder, cv_64_8, cv_8_64, cv_64_i64, cv_i64_64, cv_64_int, cv_int_64, errV_0, e1, e5, e6, hy, hz, hsucc]
            rw [CalF_cal (Kt_prim (by decide) _ _)]
            have hB2 := hF2.box (hF1.box hB8 (by omega)) (by omega)
            have hA2 := (hA.fr hF1 fun b hb hc => (hblk b hb).2.1 hc).fr hF2 fun b hb hc => (hblk b hb).2.1 hc
            refine each1_ok G2 b8 lv L z hB2 hA2 (by omega) (fun b hb => (hblk b hb).2.2) _ fun G3 lv3 hF3 hB3 hA3 hb3 => ?_
            simp only [zaa, zab, zac, zad, zae, zaf, zag, zah, zai, zaj, zak, zal, zam, zan, zao, zap, zaq, zar, zas, zat, zau, zav, zaw, zax, zay, zaz, zba, aUn, zbb, zbc, zbd, zbe, zbf, zbg, zbh, zbi, zbj, zbk, zbl, zbm, zbn, flat, simple, zbo, zbp, zbq, zbr, zbs, zbt, zbu, zbv, zbw, zbx, zby, zbz, zca, zcb, zcc, zcd, zce, zcf, zcg, zch, zci, zcj, zck, zcl, zcm, zcn, zco, zcp, zcq, zcr, Nat.reduceEqDiff, Nat.reduceLT, Nat.reduceAdd, Nat.reduceSub, reduceIte, Kt_P, zcs, zct, zcu, zcv, zcw, zcx, zcy, zcz, zda, zdb, zdc, zdd, zde, zdf, zdg, zdh, zdi, zdj, zdk, reduceCtorEq, zdl, zdm, zdn, goInt, zdo, zdp, zdq, zdr, zds, zdt, zdu, zdv, zdw, zdx, zdy, zdz, zea, zeb, zec, zed, zdk, zee, zef, zeg, zeh, zei, zej, zek, zel, zem, zen, zeo, zep, zeq, zer, zes, zet, zeu, zev, zew, zex, zey, ya, yb, yc, yd, ye, yf, ts_int, ts_int64, ts_bool, ts_ints, ts_post, ts_posts, yg, yh, yi, yj, yk, yl, ym, ts_intsl, ts_int64s, ts_bools, ts_side, ts_sideb, ts_pints, ts_pbool, aPure, aLen, ywa, ywb, ywc, ywd, ywe, ywf, ywg, ywh, ywi, ywj, ywk, ywl, ywm, ywn, ywo, ts_string, ts_u8, ts_u64, ts_error, ts_bytes, ts_arr, ts_reader, ts_pbuilder, ts_builder, cv_64_8, cv_8_64, cv_64_i64, cv_i64_64, cv_64_int, cv_int_64, errV_0, e6, hsucc]
            have hr3 := hF3.box hR2 (fun hc => hc.elim (fun h => hne h) fun h => (hblk br h).2.1 rfl)
            have g2 := hF2.next
            have g3 := hF3.next
            have hbr := hR2.1
            have h8 := hB2.1
            have hFr3 : Fr (fun j => j = br ∨ j = b8) A G3 := ((hF.trans hF1 fun b _ h => .inl h).trans hF2 fun b _ h => .inl h).trans hF3 fun b hb h => h.elim .inr fun h => absurd (hblk b h).1 (by omega)
            have hblk3 : ∀ b, blockOf lv3 b → A.next ≤ b ∧ b ≠ br ∧ b ≠ b8 := fun b hb => by have := hb3 b hb; have := hFG; have := hF1.next; exact ⟨by omega, by omega, by omega⟩
            have hso : (true = true ↔ ((0 < x ∨ kk = 0) ∧ x ≤ 9223372036854775807 - ahead)) := ⟨fun _ => ⟨.inl p1, p3⟩, fun _ => rfl⟩
            have hl3 : A.next ≤ G3.next := by have := hF1.next; omega
            by_cases hk10 : k1 = 0
            · rw [if_pos hk10] at c4
              have hd := hdec hk10
              by_cases hcond : (0 < x ∨ kk = 0) ∧ x ≤ 9223372036854775807 - ahead
              · rw [if_pos hcond] at c4
                have hy' : y = ahead + x := by rw [wrap_u64 (by omega)] at hy; omega
                have hz' : z = ((ahead + x : Nat) : Int) := by rw [← hz, hy', wrap_i64 (by omega)]
                have hk20 : k2 = 0 := by cases hso.2 hcond <;> rw [hk2, if_neg (by simp), hk10]
                rw [← hz', ← hy'] at c4
                refine ⟨(bl s1).length + 1, by first | omega | (rw [if_pos rfl]; omega), kk + 1, y, s1, k2, lv3, L ++ [z], by simp [put_at, e0, e1, e4], by rw [if_pos hk20], hl3, hFr3, hr3, hB3, hA3, hblk3, by omega, hy64, .inr (.inr ⟨c1, hk20, ⟨f0, by omega, c4⟩, by omega, by simp [c6], ?_, by simp; omega⟩)⟩
                intro w hw
                rcases List.mem_append.1 hw with h | h
                · exact c7 w h
                · simp only [List.mem_singleton] at h; subst h; rw [← hz]; exact i64_in _
              · rw [if_neg hcond] at c4
                have hsf : true = false := by
                  cases hc : true with
                  | true => exact absurd (hso.1 hc) hcond
                  | false => rfl
                have hk24 : k2 = 4 := by rw [hk2, if_pos ⟨hk10, hsf⟩]
                exact ⟨0, by simp, kk + 1, y, s1, k2, lv3, L ++ [z], by simp [put_at, e0, e1, e4], by rw [if_neg (by omega)], hl3, hFr3, hr3, hB3, hA3, hblk3, by omega, hy64, .inr (.inl ⟨c1, by omega, by rw [hk24, ← c4]⟩)⟩
            · rw [if_neg hk10] at c4
              have hk2n : k2 = k1 := by rw [hk2, if_neg (fun h => hk10 h.1)]
              exact ⟨0, by simp, kk + 1, y, s1, k2, lv3, L ++ [z], by simp [put_at, e0, e1, e4], by rw [if_neg (by omega)], hl3, hFr3, hr3, hB3, hA3, hblk3, by omega, hy64, .inr (.inl ⟨c1, by omega, by rw [hk2n, ← c4]⟩)⟩
          · have q3 : ((x : Int) ≤ ((9223372036854775807 - ahead : Nat) : Int)) = False := eq_false (by omega)
            simp only [zaa, zab, zac, zad, zae, zaf, zag, zah, zai, zaj, zak, zal, zam, zan, zao, zap, zaq, zar, zas, zat, zau, zav, zaw, zax, zay, zaz, zba, aUn, zbb, zbc, zbd, zbe, zbf, zbg, zbh, zbi, zbj, zbk, zbl, zbm, zbn, flat, simple, zbo, zbp, zbq, zbr, zbs, zbt, zbu, zbv, zbw, zbx, zby, zbz, zca, zcb, zcc, zcd, zce, zcf, zcg, zch, zci, zcj, zck, zcl, zcm, zcn, zco, zcp, zcq, zcr, Nat.reduceEqDiff, Nat.reduceLT, Nat.reduceAdd, Nat.reduceSub, reduceIte, Kt_P, zcs, zct, zcu, zcv, zcw, zcx, zcy, zcz, zda, zdb, zdc, zdd, zde, zdf, zdg, zdh, zdi, zdj, zdk, reduceCtorEq, zdl, zdm, zdn, goInt, zdo, zdp, zdq, zdr, zds, zdt, zdu, zdv, zdw, zdx, zdy, zdz, zea, zeb, zec, zed, zdk, zee, zef, zeg, zeh, zei, zej, zek, zel, zem, zen, zeo, zep, zeq, zer, zes, zet, zeu, zev, zew, zex, zey, ya, yb, yc, yd, ye, yf, ts_int, ts_int64, ts_bool, ts_ints, ts_post, ts_posts, yg, yh, yi, yj, yk, yl, ym, ts_intsl, ts_int64s, ts_bools, ts_side, ts_sideb, ts_pints, ts_pbool, aPure, aLen, ywa, ywb, ywc, ywd, ywe, ywf, ywg, ywh, ywi, ywj, ywk, ywl, ywm, ywn, ywo, ts_string, ts_u8, ts_u64, ts_error, ts_bytes, ts_arr, ts_reader, ts_pbuilder, ts_builder, cv_64_8, cv_8_64, cv_64_i64, cv_i64_64, cv_64_int, cv_int_64, errV_0, e0, e5, e6, q1, q3, hsub]
            rw [CalF_cal (Kt_prim (by decide) _ _)]
            refine form_ok G1 br s1 k1 _ hR1 _ fun G2 k2 hn2 hF2 hR2 hk2 => ?_
            obtain ⟨y, hy, hy64⟩ := u64_nat ((ahead : Int) + (x : Int))
            obtain ⟨z, hz⟩ : ∃ z, IntKind.i64.wrap (y : Int) = z := ⟨_, rfl⟩
            have hsucc : IntKind.u64.wrap ((kk : Int) + 1) = ((kk + 1 : Nat) : Int) := by rw [wrap_u64 (by omega)]; omega
            simp only [zaa, zab, zac, zad, zae, zaf, zag, zah, zai, zaj, zak, zal, zam, zan, zao, zap, zaq, zar, zas, zat, zau, zav, zaw, zax, zay, zaz, zba, aUn, zbb, zbc, zbd, zbe, zbf, zbg, zbh, zbi, zbj, zbk, zbl, zbm, zbn, flat, simple, zbo, zbp, zbq, zbr, zbs, zbt, zbu, zbv, zbw, zbx, zby, zbz, zca, zcb, zcc, zcd, zce, zcf, zcg, zch, zci, zcj, zck, zcl, zcm, zcn, zco, zcp, zcq, zcr, Nat.reduceEqDiff, Nat.reduceLT, Nat.reduceAdd, Nat.reduceSub, reduceIte, Kt_P, zcs, zct, zcu, zcv, zcw, zcx, zcy, zcz, zda, zdb, zdc, zdd, zde, zdf, zdg, zdh, zdi, zdj, zdk, reduceCtorEq, zdl, zdm, zdn, goInt, zdo, zdp, zdq, zdr, zds, zdt, zdu, zdv, zdw, zdx, zdy, zdz, zea, zeb, zec, zed, zdk, zee, zef, zeg, zeh, zei, zej, zek, zel, zem, zen, zeo, zep, zeq, zer, zes, zet, zeu, zev, zew, zex, zey, ya, yb, yc, yd, ye, yf, ts_int, ts_int64, ts_bool, ts_ints, ts_post, ts_posts, yg, yh, yi, yj, yk, yl, ym, ts_intsl, ts_int64s, ts_bools, ts_side, ts_sideb, ts_pints, ts_pbool, aPure, aLen, ywa, ywb, ywc, ywd, ywe, ywf, ywg, ywh, ywi, ywj, ywk, ywl, ywm, ywn, ywo, ts_string, ts_u8, ts_u64, ts_error, ts_bytes, ts_arr, ts_reader, ts_pbuilder, ts_builder, cv_64_8, cv_8_64, cv_64_i64, cv_i64_64, cv_64_int, cv_int_64, errV_0, e1, e5, e6, hy, hz, hsucc]
            rw [CalF_cal (Kt_prim (by decide) _ _)]
            have hB2 := hF2.box (hF1.box hB8 (by omega)) (by omega)
            have hA2 := (hA.fr hF1 fun b hb hc => (hblk b hb).2.1 hc).fr hF2 fun b hb hc => (hblk b hb).2.1 hc
            refine each1_ok G2 b8 lv L z hB2 hA2 (by omega) (fun b hb => (hblk b hb).2.2) _ fun G3 lv3 hF3 hB3 hA3 hb3 => ?_
            simp only [zaa, zab, zac, zad, zae, zaf, zag, zah, zai, zaj, zak, zal, zam, zan, zao, zap, zaq, zar, zas, zat, zau, zav, zaw, zax, zay, zaz, zba, aUn, zbb, zbc, zbd, zbe, zbf, zbg, zbh, zbi, zbj, zbk, zbl, zbm, zbn, flat, simple, zbo, zbp, zbq, zbr, zbs, zbt, zbu, zbv, zbw, zbx, zby, zbz, zca, zcb, zcc, zcd, zce, zcf, zcg, zch, zci, zcj, zck, zcl, zcm, zcn, zco, zcp, zcq, zcr, Nat.reduceEqDiff, Nat.reduceLT, Nat.reduceAdd, Nat.reduceSub, reduceIte, Kt_P, zcs, zct, zcu, zcv, zcw, zcx, zcy, zcz, zda, zdb, zdc, zdd, zde, zdf, zdg, zdh, zdi, zdj, zdk, reduceCtorEq, zdl, zdm, zdn, goInt, zdo, zdp, zdq, zdr, zds, zdt, zdu, zdv, zdw, zdx, zdy, zdz, zea, zeb, zec, zed, zdk, zee, zef, zeg, zeh, zei, zej, zek, zel, zem, zen, zeo, zep, zeq, zer, zes, zet, zeu, zev, zew, zex, zey, ya, yb, yc, yd, ye, yf, ts_int, ts_int64, ts_bool, ts_ints, ts_post, ts_posts, yg, yh, yi, yj, yk, yl, ym, ts_intsl, ts_int64s, ts_bools, ts_side, ts_sideb, ts_pints, ts_pbool, aPure, aLen, ywa, ywb, ywc, ywd, ywe, ywf, ywg, ywh, ywi, ywj, ywk, ywl, ywm, ywn, ywo, ts_string, ts_u8, ts_u64, ts_error, ts_bytes, ts_arr, ts_reader, ts_pbuilder, ts_builder, cv_64_8, cv_8_64, cv_64_i64, cv_i64_64, cv_64_int, cv_int_64, errV_0, e6, hsucc]
            have hr3 := hF3.box hR2 (fun hc => hc.elim (fun h => hne h) fun h => (hblk br h).2.1 rfl)
            have g2 := hF2.next
            have g3 := hF3.next
            have hbr := hR2.1
            have h8 := hB2.1
            have hFr3 : Fr (fun j => j = br ∨ j = b8) A G3 := ((hF.trans hF1 fun b _ h => .inl h).trans hF2 fun b _ h => .inl h).trans hF3 fun b hb h => h.elim .inr fun h => absurd (hblk b h).1 (by omega)
            have hblk3 : ∀ b, blockOf lv3 b → A.next ≤ b ∧ b ≠ br ∧ b ≠ b8 := fun b hb => by have := hb3 b hb; have := hFG; have := hF1.next; exact ⟨by omega, by omega, by omega⟩
            have hso : (false = true ↔ ((0 < x ∨ kk = 0) ∧ x ≤ 9223372036854775807 - ahead)) := ⟨fun h => (by cases h), fun h => absurd h.2 p3⟩
            have hl3 : A.next ≤ G3.next := by have := hF1.next; omega
            by_cases hk10 : k1 = 0
            · rw [if_pos hk10] at c4
              have hd := hdec hk10
              by_cases hcond : (0 < x ∨ kk = 0) ∧ x ≤ 9223372036854775807 - ahead
              · rw [if_pos hcond] at c4
                have hy' : y = ahead + x := by rw [wrap_u64 (by omega)] at hy; omega
                have hz' : z = ((ahead + x : Nat) : Int) := by rw [← hz, hy', wrap_i64 (by omega)]
                have hk20 : k2 = 0 := by cases hso.2 hcond <;> rw [hk2, if_neg (by simp), hk10]
                rw [← hz', ← hy'] at c4
                refine ⟨(bl s1).length + 1, by first | omega | (rw [if_pos rfl]; omega), kk + 1, y, s1, k2, lv3, L ++ [z], by simp [put_at, e0, e1, e4], by rw [if_pos hk20], hl3, hFr3, hr3, hB3, hA3, hblk3, by omega, hy64, .inr (.inr ⟨c1, hk20, ⟨f0, by omega, c4⟩, by omega, by simp [c6], ?_, by simp; omega⟩)⟩
                intro w hw
                rcases List.mem_append.1 hw with h | h
                · exact c7 w h
                · simp only [List.mem_singleton] at h; subst h; rw [← hz]; exact i64_in _
              · rw [if_neg hcond] at c4
                have hsf : false = false := by
                  cases hc : false with
                  | true => exact absurd (hso.1 hc) hcond
                  | false => rfl
                have hk24 : k2 = 4 := by rw [hk2, if_pos ⟨hk10, hsf⟩]
                exact ⟨0, by simp, kk + 1, y, s1, k2, lv3, L ++ [z], by simp [put_at, e0, e1, e4], by rw [if_neg (by omega)], hl3, hFr3, hr3, hB3, hA3, hblk3, by omega, hy64, .inr (.inl ⟨c1, by omega, by rw [hk24, ← c4]⟩)⟩
            · rw [if_neg hk10] at c4
              have hk2n : k2 = k1 := by rw [hk2, if_neg (fun h => hk10 h.1)]
              exact ⟨0, by simp, kk + 1, y, s1, k2, lv3, L ++ [z], by simp [put_at, e0, e1, e4], by rw [if_neg (by omega)], hl3, hFr3, hr3, hB3, hA3, hblk3, by omega, hy64, .inr (.inl ⟨c1, by omega, by rw [hk2n, ← c4]⟩)⟩
        · have q1 : (0 < x) = False := eq_false p1
          have p3 : x ≤ 9223372036854775807 - ahead := by omega
          have q3 : ((x : Int) ≤ ((9223372036854775807 - ahead : Nat) : Int)) = True := eq_true (by omega)
          by_cases p2 : kk = 0
          · have q2 : (kk = 0) = True := eq_true p2
            simp only [zaa, zab, zac, zad, zae, zaf, zag, zah, zai, zaj, zak, zal, zam, zan, zao, zap, zaq, zar, zas, zat, zau, zav, zaw, zax, zay, zaz, zba, aUn, zbb, zbc, zbd, zbe, zbf, zbg, zbh, zbi, zbj, zbk, zbl, zbm, zbn, flat, simple, zbo, zbp, zbq, zbr, zbs, zbt, zbu, zbv, zbw, zbx, zby, zbz, zca, zcb, zcc, zcd, zce, zcf, zcg, zch, zci, zcj, zck, zcl, zcm, zcn, zco, zcp, zcq, zcr, Nat.reduceEqDiff, Nat.reduceLT, Nat.reduceAdd, Nat.reduceSub, reduceIte, Kt_P, zcs, zct, zcu, zcv, zcw, zcx, zcy, zcz, zda, zdb, zdc, zdd, zde, zdf, zdg, zdh, zdi, zdj, zdk, reduceCtorEq, zdl, zdm, zdn, goInt, zdo, zdp, zdq, zdr, zds, zdt, zdu, zdv, zdw, zdx, zdy, zdz, zea, zeb, zec, zed, zdk, zee, zef, zeg, zeh, zei, zej, zek, zel, zem, zen, zeo, zep, zeq, zer, zes, zet, zeu, zev, zew, zex, zey, ya, yb, yc, yd, ye, yf, ts_int, ts_int64, ts_bool, ts_ints, ts_post, ts_posts, yg, yh, yi, yj, yk, yl, ym, ts_intsl, ts_int64s, ts_bools, ts_side, ts_sideb, ts_pints, ts_pbool, aPure, aLen, ywa, ywb, ywc, ywd, ywe, ywf, ywg, ywh, ywi, ywj, ywk, ywl, ywm, ywn, ywo, ts_string, ts_u8, ts_u64, ts_error, ts_bytes, ts_arr, ts_reader, ts_pbuilder, ts_builder, cv_64_8, cv_8_64, cv_64_i64, cv_i64_64, cv_64_int, cv_int_64, errV_0, e0, e5, e6, q1, q2, q3, hkk0, hsub]
            rw [CalF_cal (Kt_prim (by decide) _ _)]
            refine form_ok G1 br s1 k1 _ hR1 _ fun G2 k2 hn2 hF2 hR2 hk2 => ?_
            obtain ⟨y, hy, hy64⟩ := u64_nat ((ahead : Int) + (x : Int))
            obtain ⟨z, hz⟩ : ∃ z, IntKind.i64.wrap (y : Int) = z := ⟨_, rfl⟩
            have hsucc : IntKind.u64.wrap ((kk : Int) + 1) = ((kk + 1 : Nat) : Int) := by rw [wrap_u64 (by omega)]; omega
            simp only [zaa, zab, zac, zad, zae, zaf, zag, zah, zai, zaj, zak, zal, zam, zan, zao, zap, zaq, zar, zas, zat, zau, zav, zaw, zax, zay, zaz, zba, aUn, zbb, zbc, zbd, zbe, zbf, zbg, zbh, zbi, zbj, zbk, zbl, zbm, zbn, flat, simple, zbo, zbp, zbq, zbr, zbs, zbt, zbu, zbv, zbw, zbx, zby, zbz, zca, zcb, zcc, zcd, zce, zcf, zcg, zch, zci, zcj, zck, zcl, zcm, zcn, zco, zcp, zcq, zcr, Nat.reduceEqDiff, Nat.reduceLT, Nat.reduceAdd, Nat.reduceSub, reduceIte, Kt_P, zcs, zct, zcu, zcv, zcw, zcx, zcy, zcz, zda, zdb, zdc, zdd, zde, zdf, zdg, zdh, zdi, zdj, zdk, reduceCtorEq, zdl, zdm, zdn, goInt, zdo, zdp, zdq, zdr, zds, zdt, zdu, zdv, zdw, zdx, zdy, zdz, zea, zeb, zec, zed, zdk, zee, zef, zeg, zeh, zei, zej, zek, zel, zem, zen, zeo, zep, zeq, zer, zes, zet, zeu, zev, zew, zex, zey, ya, yb, yc, yd, ye, yf, ts_int, ts_int64, ts_bool, ts_ints, ts_post, ts_posts, yg, yh, yi, yj, yk, yl, ym, ts_intsl, ts_int64s, ts_bools, ts_side, ts_sideb, ts_pints, ts_pbool, aPure, aLen, ywa, ywb, ywc, ywd, ywe, ywf, ywg, ywh, ywi, ywj, ywk, ywl, ywm, ywn, ywo, ts_string, ts_u8, ts_u64, ts_error, ts_bytes, ts_arr, ts_reader, ts_pbuilder, ts_builder, cv_64_8, cv_8_64, cv_64_i64, cv_i64_64, cv_64_int, cv_int_64, errV_0, e1, e5, e6, hy, hz, hsucc]
            rw [CalF_cal (Kt_prim (by decide) _ _)]
            have hB2 := hF2.box (hF1.box hB8 (by omega)) (by omega)
            have hA2 := (hA.fr hF1 fun b hb hc => (hblk b hb).2.1 hc).fr hF2 fun b hb hc => (hblk b hb).2.1 hc
            refine each1_ok G2 b8 lv L z hB2 hA2 (by omega) (fun b hb => (hblk b hb).2.2) _ fun G3 lv3 hF3 hB3 hA3 hb3 => ?_
            simp only [zaa, zab, zac, zad, zae, zaf, zag, zah, zai, zaj, zak, zal, zam, zan, zao, zap, zaq, zar, zas, zat, zau, zav, zaw, zax, zay, zaz, zba, aUn, zbb, zbc, zbd, zbe, zbf, zbg, zbh, zbi, zbj, zbk, zbl, zbm, zbn, flat, simple, zbo, zbp, zbq, zbr, zbs, zbt, zbu, zbv, zbw, zbx, zby, zbz, zca, zcb, zcc, zcd, zce, zcf, zcg, zch, zci, zcj, zck, zcl, zcm, zcn, zco, zcp, zcq, zcr, Nat.reduceEqDiff, Nat.reduceLT, Nat.reduceAdd, Nat.reduceSub, reduceIte, Kt_P, zcs, zct, zcu, zcv, zcw, zcx, zcy, zcz, zda, zdb, zdc, zdd, zde, zdf, zdg, zdh, zdi, zdj, zdk, reduceCtorEq, zdl, zdm, zdn, goInt, zdo, zdp, zdq, zdr, zds, zdt, zdu, zdv, zdw, zdx, zdy, zdz, zea, zeb, zec, zed, zdk, zee, zef, zeg, zeh, zei, zej, zek, zel, zem, zen, zeo, zep, zeq, zer, zes, zet, zeu, zev, zew, zex, zey, ya, yb, yc, yd, ye, yf, ts_int, ts_int64, ts_bool, ts_ints, ts_post, ts_posts, yg, yh, yi, yj, yk, yl, ym, ts_intsl, ts_int64s, ts_bools, ts_side, ts_sideb, ts_pints, ts_pbool, aPure, aLen, ywa, ywb, ywc, ywd, ywe, ywf, ywg, ywh, ywi, ywj, ywk, ywl, ywm, ywn, ywo, ts_string, ts_u8, ts_u64, ts_error, ts_bytes, ts_arr, ts_reader, ts_pbuilder, ts_builder, cv_64_8, cv_8_64, cv_64_i64, cv_i64_64, cv_64_int, cv_int_64, errV_0, e6, hsucc]
            have hr3 := hF3.box hR2 (fun hc => hc.elim (fun h => hne h) fun h => (hblk br h).2.1 rfl)
            have g2 := hF2.next
            have g3 := hF3.next
            have hbr := hR2.1
            have h8 := hB2.1
            have hFr3 : Fr (fun j => j = br ∨ j = b8) A G3 := ((hF.trans hF1 fun b _ h => .inl h).trans hF2 fun b _ h => .inl h).trans hF3 fun b hb h => h.elim .inr fun h => absurd (hblk b h).1 (by omega)
            have hblk3 : ∀ b, blockOf lv3 b → A.next ≤ b ∧ b ≠ br ∧ b ≠ b8 := fun b hb => by have := hb3 b hb; have := hFG; have := hF1.next; exact ⟨by omega, by omega, by omega⟩
            have hso : (true = true ↔ ((0 < x ∨ kk = 0) ∧ x ≤ 9223372036854775807 - ahead)) := ⟨fun _ => ⟨.inr p2, p3⟩, fun _ => rfl⟩
            have hl3 : A.next ≤ G3.next := by have := hF1.next; omega
            by_cases hk10 : k1 = 0
            · rw [if_pos hk10] at c4
              have hd := hdec hk10
              by_cases hcond : (0 < x ∨ kk = 0) ∧ x ≤ 9223372036854775807 - ahead
              · rw [if_pos hcond] at c4
                have hy' : y = ahead + x := by rw [wrap_u64 (by omega)] at hy; omega
                have hz' : z = ((ahead + x : Nat) : Int) := by rw [← hz, hy', wrap_i64 (by omega)]
                have hk20 : k2 = 0 := by cases hso.2 hcond <;> rw [hk2, if_neg (by simp), hk10]
                rw [← hz', ← hy'] at c4
                refine ⟨(bl s1).length + 1, by first | omega | (rw [if_pos rfl]; omega), kk + 1, y, s1, k2, lv3, L ++ [z], by simp [put_at, e0, e1, e4], by rw [if_pos hk20], hl3, hFr3, hr3, hB3, hA3, hblk3, by omega, hy64, .inr (.inr ⟨c1, hk20, ⟨f0, by omega, c4⟩, by omega, by simp [c6], ?_, by simp; omega⟩)⟩
                intro w hw
                rcases List.mem_append.1 hw with h | h
                · exact c7 w h
                · simp only [List.mem_singleton] at h; subst h; rw [← hz]; exact i64_in _
              · rw [if_neg hcond] at c4
                have hsf : true = false := by
                  cases hc : true with
                  | true => exact absurd (hso.1 hc) hcond
                  | false => rfl
                have hk24 : k2 = 4 := by rw [hk2, if_pos ⟨hk10, hsf⟩]
                exact ⟨0, by simp, kk + 1, y, s1, k2, lv3, L ++ [z], by simp [put_at, e0, e1, e4], by rw [if_neg (by omega)], hl3, hFr3, hr3, hB3, hA3, hblk3, by omega, hy64, .inr (.inl ⟨c1, by omega, by rw [hk24, ← c4]⟩)⟩
            · rw [if_neg hk10] at c4
              have hk2n : k2 = k1 := by rw [hk2, if_neg (fun h => hk10 h.1)]
              exact ⟨0, by simp, kk + 1, y, s1, k2, lv3, L ++ [z], by simp [put_at, e0, e1, e4], by rw [if_neg (by omega)], hl3, hFr3, hr3, hB3, hA3, hblk3, by omega, hy64, .inr (.inl ⟨c1, by omega, by rw [hk2n, ← c4]⟩)⟩
          · have q2 : (kk = 0) = False := eq_false p2
            simp only [zaa, zab, zac, zad, zae, zaf, zag, zah, zai, zaj, zak, zal, zam, zan, zao, zap, zaq, zar, zas, zat, zau, zav, zaw, zax, zay, zaz, zba, aUn, zbb, zbc, zbd, zbe, zbf, zbg, zbh, zbi, zbj, zbk, zbl, zbm, zbn, flat, simple, zbo, zbp, zbq, zbr, zbs, zbt, zbu, zbv, zbw, zbx, zby, zbz, zca, zcb, zcc, zcd, zce, zcf, zcg, zch, zci, zcj, zck, zcl, zcm, zcn, zco, zcp, zcq, zcr, Nat.reduceEqDiff, Nat.reduceLT, Nat.reduceAdd, Nat.reduceSub, reduceIte, Kt_P, zcs, zct, zcu, zcv, zcw, zcx, zcy, zcz, zda, zdb, zdc, zdd, zde, zdf, zdg, zdh, zdi, zdj, zdk, reduceCtorEq, zdl, zdm, zdn, goInt, zdo, zdp, zdq, zdr, zds, zdt, zdu, zdv, zdw, zdx, zdy, zdz, zea, zeb, zec, zed, zdk, zee, zef, zeg, zeh, zei, zej, zek, zel, zem, zen, zeo, zep, zeq, zer, zes, zet, zeu, zev, zew, zex, zey, ya, yb, yc, yd, ye, yf, ts_int, ts_int64, ts_bool, ts_ints, ts_post, ts_posts, yg, yh, yi, yj, yk, yl, ym, ts_intsl, ts_int64s, ts_bools, ts_side, ts_sideb, ts_pints, ts_pbool, aPure, aLen, ywa, ywb, ywc, ywd, ywe, ywf, ywg, ywh, ywi, ywj, ywk, ywl, ywm, ywn, ywo, ts_string, ts_u8, ts_u64, ts_error, ts_bytes, ts_arr, ts_reader, ts_pbuilder, ts_builder, cv_64_8, cv_8_64, cv_64_i64, cv_i64_64, cv_64_int, cv_int_64, errV_0, e0, e5, e6, q1, q2, hkk0, hsub]
            rw [CalF_cal (Kt_prim (by decide) _ _)]
            refine form_ok G1 br s1 k1 _ hR1 _ fun G2 k2 hn2 hF2 hR2 hk2 => ?_
            obtain ⟨y, hy, hy64⟩ := u64_nat ((ahead : Int) + (x : Int))
            obtain ⟨z, hz⟩ : ∃ z, IntKind.i64.wrap (y : Int) = z := ⟨_, rfl⟩
            have hsucc : IntKind.u64.wrap ((kk : Int) + 1) = ((kk + 1 : Nat) : Int) := by rw [wrap_u64 (by omega)]; omega
            simp only [zaa, zab, zac, zad, zae, zaf, zag, zah, zai, zaj, zak, zal, zam, zan, zao, zap, zaq, zar, zas, zat, zau, zav, zaw, zax, zay, zaz, zba, aUn, zbb, zbc, zbd, zbe, zbf, zbg, zbh, zbi, zbj, zbk, zbl, zbm, zbn, flat, simple, zbo, zbp, zbq, zbr, zbs, zbt, zbu, zbv, zbw, zbx, zby, zbz, zca, zcb, zcc, zcd, zce, zcf, zcg, zch, zci, zcj, zck, zcl, zcm, zcn, zco, zcp, zcq, zcr, Nat.reduceEqDiff, Nat.reduceLT, Nat.reduceAdd, Nat.reduceSub, reduceIte, Kt_P, zcs, zct, zcu, zcv, zcw, zcx, zcy, zcz, zda, zdb, zdc, zdd, zde, zdf, zdg, zdh, zdi, zdj, zdk, reduceCtorEq, zdl, zdm, zdn, goInt, zdo, zdp, zdq, zdr, zds, zdt, zdu, zdv, zdw, zdx, zdy, zdz, zea, zeb, zec, zed, zdk, zee, zef, zeg, zeh, zei, zej, zek, zel, zem, zen, zeo, zep, zeq, zer, zes, zet, zeu, zev, zew, zex, zey, ya, yb, yc, yd, ye, yf, ts_int, ts_int64, ts_bool, ts_ints, ts_post, ts_posts, yg, yh, yi, yj, yk, yl, ym, ts_intsl, ts_int64s, ts_bools, ts_side, ts_sideb, ts_pints, ts_pbool, aPure, aLen, ywa, ywb, ywc, ywd, ywe, ywf, ywg, ywh, ywi, ywj, ywk, ywl, ywm, ywn, ywo, ts_string, ts_u8, ts_u64, ts_error, ts_bytes, ts_arr, ts_reader, ts_pbuilder, ts_builder, cv_64_8, cv_8_64, cv_64_i64, cv_i64_64, cv_64_int, cv_int_64, errV_0, e1, e5, e6, hy, hz, hsucc]
            rw [CalF_cal (Kt_prim (by decide) _ _)]
            have hB2 := hF2.box (hF1.box hB8 (by omega)) (by omega)
            have hA2 := (hA.fr hF1 fun b hb hc => (hblk b hb).2.1 hc).fr hF2 fun b hb hc => (hblk b hb).2.1 hc
            refine each1_ok G2 b8 lv L z hB2 hA2 (by omega) (fun b hb => (hblk b hb).2.2) _ fun G3 lv3 hF3 hB3 hA3 hb3 => ?_
            simp only [zaa, zab, zac, zad, zae, zaf, zag, zah, zai, zaj, zak, zal, zam, zan, zao, zap, zaq, zar, zas, zat, zau, zav, zaw, zax, zay, zaz, zba, aUn, zbb, zbc, zbd, zbe, zbf, zbg, zbh, zbi, zbj, zbk, zbl, zbm, zbn, flat, simple, zbo, zbp, zbq, zbr, zbs, zbt, zbu, zbv, zbw, zbx, zby, zbz, zca, zcb, zcc, zcd, zce, zcf, zcg, zch, zci, zcj, zck, zcl, zcm, zcn, zco, zcp, zcq, zcr, Nat.reduceEqDiff, Nat.reduceLT, Nat.reduceAdd, Nat.reduceSub, reduceIte, Kt_P, zcs, zct, zcu, zcv, zcw, zcx, zcy, zcz, zda, zdb, zdc, zdd, zde, zdf, zdg, zdh, zdi, zdj, zdk, reduceCtorEq, zdl, zdm, zdn, goInt, zdo, zdp, zdq, zdr, zds, zdt, zdu, zdv, zdw, zdx, zdy, zdz, zea, zeb, zec, zed, zdk, zee, zef, zeg, zeh, zei, zej, zek, zel, zem, zen, zeo, zep, zeq, zer, zes, zet, zeu, zev, zew, zex, zey, ya, yb, yc, yd, ye, yf, ts_int, ts_int64, ts_bool, ts_ints, ts_post, ts_posts, yg, yh, yi, yj, yk, yl, ym, ts_intsl, ts_int64s, ts_bools, ts_side, ts_sideb, ts_pints, ts_pbool, aPure, aLen, ywa, ywb, ywc, ywd, ywe, ywf, ywg, ywh, ywi, ywj, ywk, ywl, ywm, ywn, ywo, ts_string, ts_u8, ts_u64, ts_error, ts_bytes, ts_arr, ts_reader, ts_pbuilder, ts_builder, cv_64_8, cv_8_64, cv_64_i64, cv_i64_64, cv_64_int, cv_int_64, errV_0, e6, hsucc]
            have hr3 := hF3.box hR2 (fun hc => hc.elim (fun h => hne h) fun h => (hblk br h).2.1 rfl)
            have g2 := hF2.next
            have g3 := hF3.next
            have hbr := hR2.1
            have h8 := hB2.1
            have hFr3 : Fr (fun j => j = br ∨ j = b8) A G3 := ((hF.trans hF1 fun b _ h => .inl h).trans hF2 fun b _ h => .inl h).trans hF3 fun b hb h => h.elim .inr fun h => absurd (hblk b h).1 (by omega)
            have hblk3 : ∀ b, blockOf lv3 b → A.next ≤ b ∧ b ≠ br ∧ b ≠ b8 := fun b hb => by have := hb3 b hb; have := hFG; have := hF1.next; exact ⟨by omega, by omega, by omega⟩
            have hso : (false = true ↔ ((0 < x ∨ kk = 0) ∧ x ≤ 9223372036854775807 - ahead)) := ⟨fun h => (by cases h), fun h => absurd h.1 (fun h => h.elim p1 p2)⟩
            have hl3 : A.next ≤ G3.next := by have := hF1.next; omega
            by_cases hk10 : k1 = 0
            · rw [if_pos hk10] at c4
              have hd := hdec hk10
              by_cases hcond : (0 < x ∨ kk = 0) ∧ x ≤ 9223372036854775807 - ahead
              · rw [if_pos hcond] at c4
                have hy' : y = ahead + x := by rw [wrap_u64 (by omega)] at hy; omega
                have hz' : z = ((ahead + x : Nat) : Int) := by rw [← hz, hy', wrap_i64 (by omega)]
                have hk20 : k2 = 0 := by cases hso.2 hcond <;> rw [hk2, if_neg (by simp), hk10]
                rw [← hz', ← hy'] at c4
                refine ⟨(bl s1).length + 1, by first | omega | (rw [if_pos rfl]; omega), kk + 1, y, s1, k2, lv3, L ++ [z], by simp [put_at, e0, e1, e4], by rw [if_pos hk20], hl3, hFr3, hr3, hB3, hA3, hblk3, by omega, hy64, .inr (.inr ⟨c1, hk20, ⟨f0, by omega, c4⟩, by omega, by simp [c6], ?_, by simp; omega⟩)⟩
                intro w hw
                rcases List.mem_append.1 hw with h | h
                · exact c7 w h
                · simp only [List.mem_singleton] at h; subst h; rw [← hz]; exact i64_in _
              · rw [if_neg hcond] at c4
                have hsf : false = false := by
                  cases hc : false with
                  | true => exact absurd (hso.1 hc) hcond
                  | false => rfl
                have hk24 : k2 = 4 := by rw [hk2, if_pos ⟨hk10, hsf⟩]
                exact ⟨0, by simp, kk + 1, y, s1, k2, lv3, L ++ [z], by simp [put_at, e0, e1, e4], by rw [if_neg (by omega)], hl3, hFr3, hr3, hB3, hA3, hblk3, by omega, hy64, .inr (.inl ⟨c1, by omega, by rw [hk24, ← c4]⟩)⟩
            · rw [if_neg hk10] at c4
              have hk2n : k2 = k1 := by rw [hk2, if_neg (fun h => hk10 h.1)]
              exact ⟨0, by simp, kk + 1, y, s1, k2, lv3, L ++ [z], by simp [put_at, e0, e1, e4], by rw [if_neg (by omega)], hl3, hFr3, hr3, hB3, hA3, hblk3, by omega, hy64, .inr (.inl ⟨c1, by omega, by rw [hk2n, ← c4]⟩)⟩
      · simp only [zaa, zab, zac, zad, zae, zaf, zag, zah, zai, zaj, zak, zal, zam, zan, zao, zap, zaq, zar, zas, zat, zau, zav, zaw, zax, zay, zaz, zba, aUn, zbb, zbc, zbd, zbe, zbf, zbg, zbh, zbi, zbj, zbk, zbl, zbm, zbn, flat, simple, zbo, zbp, zbq, zbr, zbs, zbt, zbu, zbv, zbw, zbx, zby, zbz, zca, zcb, zcc, zcd, zce, zcf, zcg, zch, zci, zcj, zck, zcl, zcm, zcn, zco, zcp, zcq, zcr, Nat.reduceEqDiff, Nat.reduceLT, Nat.reduceAdd, Nat.reduceSub, reduceIte, Kt_P, zcs, zct, zcu, zcv, zcw, zcx, zcy, zcz, zda, zdb, zdc, zdd, zde, zdf, zdg, zdh, zdi, zdj, zdk, reduceCtorEq, zdl, zdm, zdn, goInt, zdo, zdp, zdq, zdr, zds, zdt, zdu, zdv, zdw, zdx, zdy, zdz, zea, zeb, zec, zed, zdk, zee, zef, zeg, zeh, zei, zej, zek, zel, zem, zen, zeo, zep, zeq, zer, zes, zet, zeu, zev, zew, zex, zey, ya, yb, yc, yd, ye, yf, ts_int, ts_int64, ts_bool, ts_ints, ts_post, ts_posts, yg, yh, yi, yj, yk, yl, ym, ts_intsl, ts_int64s, ts_bools, ts_side, ts_sideb, ts_pints, ts_pbool, aPure, aLen, ywa, ywb, ywc, ywd, ywe, ywf, ywg, ywh, ywi, ywj, ywk, ywl, ywm, ywn, ywo, ts_string, ts_u8, ts_u64, ts_error, ts_bytes, ts_arr, ts_reader, ts_pbuilder, ts_builder, cv_64_8, cv_8_64, cv_64_i64, cv_i64_64, cv_64_int, cv_int_64, errV_0]
        exact hend (.inl hk0)
    · simp only [zaa, zab, zac, zad, zae, zaf, zag, zah, zai, zaj, zak, zal, zam, zan, zao, zap, zaq, zar, zas, zat, zau, zav, zaw, zax, zay, zaz, zba, aUn, zbb, zbc, zbd, zbe, zbf, zbg, zbh, zbi, zbj, zbk, zbl, zbm, zbn, flat, simple, zbo, zbp, zbq, zbr, zbs, zbt, zbu, zbv, zbw, zbx, zby, zbz, zca, zcb, zcc, zcd, zce, zcf, zcg, zch, zci, zcj, zck, zcl, zcm, zcn, zco, zcp, zcq, zcr, Nat.reduceEqDiff, Nat.reduceLT, Nat.reduceAdd, Nat.reduceSub, reduceIte, Kt_P, zcs, zct, zcu, zcv, zcw, zcx, zcy, zcz, zda, zdb, zdc, zdd, zde, zdf, zdg, zdh, zdi, zdj, zdk, reduceCtorEq, zdl, zdm, zdn, goInt, zdo, zdp, zdq, zdr, zds, zdt, zdu, zdv, zdw, zdx, zdy, zdz, zea, zeb, zec, zed, zdk, zee, zef, zeg, zeh, zei, zej, zek, zel, zem, zen, zeo, zep, zeq, zer, zes, zet, zeu, zev, zew, zex, zey, ya, yb, yc, yd, ye, yf, ts_int, ts_int64, ts_bool, ts_ints, ts_post, ts_posts, yg, yh, yi, yj, yk, yl, ym, ts_intsl, ts_int64s, ts_bools, ts_side, ts_sideb, ts_pints, ts_pbool, aPure, aLen, ywa, ywb, ywc, ywd, ywe, ywf, ywg, ywh, ywi, ywj, ywk, ywl, ywm, ywn, ywo, ts_string, ts_u8, ts_u64, ts_error, ts_bytes, ts_arr, ts_reader, ts_pbuilder, ts_builder, cv_64_8, cv_8_64, cv_64_i64, cv_i64_64, cv_64_int, cv_int_64, errV_0, hge]
      exact hend (.inr (by omega))
  · rcases hc with ⟨c1, c2, c3⟩ | ⟨c1, c2, c3, c4⟩
    · exact .inl ⟨c1, c3, c2⟩
    · have hpl : plOut (bl s) = if k0 = 0 then pF (bl s0).length.succ 0 n 0 (bl s0) [] else (k0, bl s, []) := by unfold plOut; rw [← c2, ← c3, ← c4]
      by_cases hk0 : k0 = 0
      · rw [if_pos hk0] at hpl
        refine .inr (.inr ⟨c1, hk0, ⟨_, Nat.lt_succ_self _, hpl.symm⟩, by omega, rfl, by simp, ?_⟩)
        rw [c4, List.length_drop]
        simp only [List.length_nil]
        omega
      · rw [if_neg hk0] at hpl
        exact .inr (.inl ⟨c1, hk0, by rw [hpl]⟩)
end Go.Sh
