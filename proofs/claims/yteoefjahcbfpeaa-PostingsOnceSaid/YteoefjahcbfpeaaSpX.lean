/- What single functions do, part 20: what is read is the one form. -/
import Derived.Test.YteoefjahcbfpeaaSpU
import Derived.Test.YteoefjahcbfpeaaSpW
namespace Go.Sh
open Go Go.Proofs
set_option linter.unusedSimpArgs false
set_option linter.unusedVariables false
set_option maxRecDepth 4000
set_option maxHeartbeats 1000000

theorem fn_once : Kt.funcs 3 = some Try.f3 := by kernel_rfl
theorem fun_nil (g : FuncId) (cs : Array Value) : aBin Try.prog .eql 23 true (.func (.func g) #[] cs) .nilFunc = some (.bool false) := by kernel_rfl
theorem str_eq (s t : ByteArray) (c : Bool) : aBin Try.prog .eql 9 c (.string s) (.string t) = some (.bool (decide (bl s = bl t))) := by
  have : (bl s == bl t) = decide (bl s = bl t) := by
    by_cases h : bl s = bl t
    · rw [h]; simp
    · rw [decide_eq_false h]; simpa using h
  simp only [aBin, strBin, toList_bl, this]

theorem encD_len : ∀ (l : List PostL) (b : Bool) (d : Int), l.length ≤ (encD b d l).length
  | [], b, d => Nat.le_refl _
  | p :: l, b, d => by
    rw [encD]
    simp only [List.length_append, List.length_cons]
    have := encD_len l false p.1
    have := uintL_pos p.2.length
    omega

theorem docsUp_wfs {l : List PostL} (h : docsUp true 0 l) : wfs l ∧ ∀ p ∈ l, inI64 p.1 := by
  obtain ⟨h1, h2⟩ := docsUp_all l true 0 h
  refine ⟨(wfs_iff l).2 ⟨h2, fun p hp => ?_⟩, fun p hp => ?_⟩
  · obtain ⟨k1, k2⟩ := placesUp_all (h1 p hp).2.2.2
    exact (rises_iff _).2 ⟨fun x hx => (k1 x hx).1, k2⟩
  · have := h1 p hp
    unfold inI64
    omega

theorem once_ok (A : AHeap) (s : ByteArray) (Q : Value → AHeap → Prop) (hq : ∀ A', Ext A A' → Q (.bool true) A') : Cal Kt 3 #[.string s] A Q := by
  refine Cal_of (nt := 41) (rs := [.tmp 2]) fn_once rfl rfl rfl (Nat.le_of_ble_eq_true rfl) ?_
  simp only [zaa, zab, zac, zad, zae, zaf, zag, zah, zai, zaj, zak, zal, zam, zan, zao, zap, zaq, zar, zas, zat, zau, zav, zaw, zax, zay, zaz, zba, aUn, zbb, zbc, zbd, zbe, zbf, zbg, zbh, zbi, zbj, zbk, zbl, zbm, zbn, flat, simple, zbo, zbp, zbq, zbr, zbs, zbt, zbu, zbv, zbw, zbx, zby, zbz, zca, zcb, zcc, zcd, zce, zcf, zcg, zch, zci, zcj, zck, zcl, zcm, zcn, zco, zcp, zcq, zcr, Nat.reduceEqDiff, Nat.reduceLT, Nat.reduceAdd, Nat.reduceSub, reduceIte, Kt_P, zcs, zct, zcu, zcv, zcw, zcx, zcy, zcz, zda, zdb, zdc, zdd, zde, zdf, zdg, zdh, zdi, zdj, zdk, reduceCtorEq, zdl, zdm, zdn, goInt, zdo, zdp, zdq, zdr, zds, zdt, zdu, zdv, zdw, zdx, zdy, zdz, zea, zeb, zec, zed, zdk, zee, zef, zeg, zeh, zei, zej, zek, zel, zem, zen, zeo, zep, zeq, zer, zes, zet, zeu, zev, zew, zex, zey, ya, yb, yc, yd, ye, yf, ts_int, ts_int64, ts_bool, ts_ints, ts_post, ts_posts, yg, yh, yi, yj, yk, yl, ym, ts_intsl, ts_int64s, ts_bools, ts_side, ts_sideb, ts_pints, ts_pbool, aPure, aLen, ywa, ywb, ywc, ywd, ywe, ywf, ywg, ywh, ywi, ywj, ywk, ywl, ywm, ywn, ywo, ts_string, ts_u8, ts_u64, ts_error, ts_bytes, ts_arr, ts_reader, ts_pbuilder, ts_builder, cv_64_8, cv_8_64, cv_64_i64, cv_i64_64, cv_64_int, cv_int_64, errV_0]
  refine Way_of (fun hgt => ?_) (fun hle => ?_)
  · simp only [zaa, zab, zac, zad, zae, zaf, zag, zah, zai, zaj, zak, zal, zam, zan, zao, zap, zaq, zar, zas, zat, zau, zav, zaw, zax, zay, zaz, zba, aUn, zbb, zbc, zbd, zbe, zbf, zbg, zbh, zbi, zbj, zbk, zbl, zbm, zbn, flat, simple, zbo, zbp, zbq, zbr, zbs, zbt, zbu, zbv, zbw, zbx, zby, zbz, zca, zcb, zcc, zcd, zce, zcf, zcg, zch, zci, zcj, zck, zcl, zcm, zcn, zco, zcp, zcq, zcr, Nat.reduceEqDiff, Nat.reduceLT, Nat.reduceAdd, Nat.reduceSub, reduceIte, Kt_P, zcs, zct, zcu, zcv, zcw, zcx, zcy, zcz, zda, zdb, zdc, zdd, zde, zdf, zdg, zdh, zdi, zdj, zdk, reduceCtorEq, zdl, zdm, zdn, goInt, zdo, zdp, zdq, zdr, zds, zdt, zdu, zdv, zdw, zdx, zdy, zdz, zea, zeb, zec, zed, zdk, zee, zef, zeg, zeh, zei, zej, zek, zel, zem, zen, zeo, zep, zeq, zer, zes, zet, zeu, zev, zew, zex, zey, ya, yb, yc, yd, ye, yf, ts_int, ts_int64, ts_bool, ts_ints, ts_post, ts_posts, yg, yh, yi, yj, yk, yl, ym, ts_intsl, ts_int64s, ts_bools, ts_side, ts_sideb, ts_pints, ts_pbool, aPure, aLen, ywa, ywb, ywc, ywd, ywe, ywf, ywg, ywh, ywi, ywj, ywk, ywl, ywm, ywn, ywo, ts_string, ts_u8, ts_u64, ts_error, ts_bytes, ts_arr, ts_reader, ts_pbuilder, ts_builder, cv_64_8, cv_8_64, cv_64_i64, cv_i64_64, cv_64_int, cv_int_64, errV_0]
    exact hq A (Fr.refl _ _)
  · have hs : (bl s).length ≤ 10000 := by rw [← bl_len]; omega
    simp only [zaa, zab, zac, zad, zae, zaf, zag, zah, zai, zaj, zak, zal, zam, zan, zao, zap, zaq, zar, zas, zat, zau, zav, zaw, zax, zay, zaz, zba, aUn, zbb, zbc, zbd, zbe, zbf, zbg, zbh, zbi, zbj, zbk, zbl, zbm, zbn, flat, simple, zbo, zbp, zbq, zbr, zbs, zbt, zbu, zbv, zbw, zbx, zby, zbz, zca, zcb, zcc, zcd, zce, zcf, zcg, zch, zci, zcj, zck, zcl, zcm, zcn, zco, zcp, zcq, zcr, Nat.reduceEqDiff, Nat.reduceLT, Nat.reduceAdd, Nat.reduceSub, reduceIte, Kt_P, zcs, zct, zcu, zcv, zcw, zcx, zcy, zcz, zda, zdb, zdc, zdd, zde, zdf, zdg, zdh, zdi, zdj, zdk, reduceCtorEq, zdl, zdm, zdn, goInt, zdo, zdp, zdq, zdr, zds, zdt, zdu, zdv, zdw, zdx, zdy, zdz, zea, zeb, zec, zed, zdk, zee, zef, zeg, zeh, zei, zej, zek, zel, zem, zen, zeo, zep, zeq, zer, zes, zet, zeu, zev, zew, zex, zey, ya, yb, yc, yd, ye, yf, ts_int, ts_int64, ts_bool, ts_ints, ts_post, ts_posts, yg, yh, yi, yj, yk, yl, ym, ts_intsl, ts_int64s, ts_bools, ts_side, ts_sideb, ts_pints, ts_pbool, aPure, aLen, ywa, ywb, ywc, ywd, ywe, ywf, ywg, ywh, ywi, ywj, ywk, ywl, ywm, ywn, ywo, ts_string, ts_u8, ts_u64, ts_error, ts_bytes, ts_arr, ts_reader, ts_pbuilder, ts_builder, cv_64_8, cv_8_64, cv_64_i64, cv_i64_64, cv_64_int, cv_int_64, errV_0]
    rw [CalF_cal (Kt_prim (by decide) _ _)]
    refine all_ok A s hs _ fun g cs A1 hE1 h0 h1 => ?_
    simp only [zaa, zab, zac, zad, zae, zaf, zag, zah, zai, zaj, zak, zal, zam, zan, zao, zap, zaq, zar, zas, zat, zau, zav, zaw, zax, zay, zaz, zba, aUn, zbb, zbc, zbd, zbe, zbf, zbg, zbh, zbi, zbj, zbk, zbl, zbm, zbn, flat, simple, zbo, zbp, zbq, zbr, zbs, zbt, zbu, zbv, zbw, zbx, zby, zbz, zca, zcb, zcc, zcd, zce, zcf, zcg, zch, zci, zcj, zck, zcl, zcm, zcn, zco, zcp, zcq, zcr, Nat.reduceEqDiff, Nat.reduceLT, Nat.reduceAdd, Nat.reduceSub, reduceIte, Kt_P, zcs, zct, zcu, zcv, zcw, zcx, zcy, zcz, zda, zdb, zdc, zdd, zde, zdf, zdg, zdh, zdi, zdj, zdk, reduceCtorEq, zdl, zdm, zdn, goInt, zdo, zdp, zdq, zdr, zds, zdt, zdu, zdv, zdw, zdx, zdy, zdz, zea, zeb, zec, zed, zdk, zee, zef, zeg, zeh, zei, zej, zek, zel, zem, zen, zeo, zep, zeq, zer, zes, zet, zeu, zev, zew, zex, zey, ya, yb, yc, yd, ye, yf, ts_int, ts_int64, ts_bool, ts_ints, ts_post, ts_posts, yg, yh, yi, yj, yk, yl, ym, ts_intsl, ts_int64s, ts_bools, ts_side, ts_sideb, ts_pints, ts_pbool, aPure, aLen, ywa, ywb, ywc, ywd, ywe, ywf, ywg, ywh, ywi, ywj, ywk, ywl, ywm, ywn, ywo, ts_string, ts_u8, ts_u64, ts_error, ts_bytes, ts_arr, ts_reader, ts_pbuilder, ts_builder, cv_64_8, cv_8_64, cv_64_i64, cv_i64_64, cv_64_int, cv_int_64, errV_0, fun_nil]
    refine CalF_prim (works_prim _) ?_
    simp only [zaa, zab, zac, zad, zae, zaf, zag, zah, zai, zaj, zak, zal, zam, zan, zao, zap, zaq, zar, zas, zat, zau, zav, zaw, zax, zay, zaz, zba, aUn, zbb, zbc, zbd, zbe, zbf, zbg, zbh, zbi, zbj, zbk, zbl, zbm, zbn, flat, simple, zbo, zbp, zbq, zbr, zbs, zbt, zbu, zbv, zbw, zbx, zby, zbz, zca, zcb, zcc, zcd, zce, zcf, zcg, zch, zci, zcj, zck, zcl, zcm, zcn, zco, zcp, zcq, zcr, Nat.reduceEqDiff, Nat.reduceLT, Nat.reduceAdd, Nat.reduceSub, reduceIte, Kt_P, zcs, zct, zcu, zcv, zcw, zcx, zcy, zcz, zda, zdb, zdc, zdd, zde, zdf, zdg, zdh, zdi, zdj, zdk, reduceCtorEq, zdl, zdm, zdn, goInt, zdo, zdp, zdq, zdr, zds, zdt, zdu, zdv, zdw, zdx, zdy, zdz, zea, zeb, zec, zed, zdk, zee, zef, zeg, zeh, zei, zej, zek, zel, zem, zen, zeo, zep, zeq, zer, zes, zet, zeu, zev, zew, zex, zey, ya, yb, yc, yd, ye, yf, ts_int, ts_int64, ts_bool, ts_ints, ts_post, ts_posts, yg, yh, yi, yj, yk, yl, ym, ts_intsl, ts_int64s, ts_bools, ts_side, ts_sideb, ts_pints, ts_pbool, aPure, aLen, ywa, ywb, ywc, ywd, ywe, ywf, ywg, ywh, ywi, ywj, ywk, ywl, ywm, ywn, ywo, ts_string, ts_u8, ts_u64, ts_error, ts_bytes, ts_arr, ts_reader, ts_pbuilder, ts_builder, cv_64_8, cv_8_64, cv_64_i64, cv_i64_64, cv_64_int, cv_int_64, errV_0]
    rw [CalF_cal (Kt_prim (by decide) _ _)]
    by_cases he : (aF (bl s)).1 = 0
    · obtain ⟨cb, hc1, hc2, hit⟩ := h0 he
      obtain ⟨L, hL⟩ : ∃ L, (aF (bl s)).2 = L := ⟨_, rfl⟩
      have haF : aF (bl s) = (0, L) := by rw [← he, ← hL]
      obtain ⟨hcan, hup⟩ := aF_canon haF
      obtain ⟨hwf, hin⟩ := docsUp_wfs hup
      rw [hL] at hit
      have hlen : L.length ≤ 100000 := by
        have := encD_len L true 0
        have h2 : (bl s).length = (encL L).length := by rw [← hcan]
        unfold encL at h2
        rw [List.length_append] at h2
        omega
      refine gathered_ok A1 _ L _ hit hlen hin _ fun v A2 hE2 hP => ?_
      have herr : aBin Try.prog .neq 25 true .nilIface .nilIface = some (.bool false) := err_neq 0
      have herr2 : aBin Try.prog .eql 25 true .nilIface .nilIface = some (.bool true) := err_eql 0
      obtain ⟨o, hv, _⟩ := hP.opened
      subst hv
      simp only [zaa, zab, zac, zad, zae, zaf, zag, zah, zai, zaj, zak, zal, zam, zan, zao, zap, zaq, zar, zas, zat, zau, zav, zaw, zax, zay, zaz, zba, aUn, zbb, zbc, zbd, zbe, zbf, zbg, zbh, zbi, zbj, zbk, zbl, zbm, zbn, flat, simple, zbo, zbp, zbq, zbr, zbs, zbt, zbu, zbv, zbw, zbx, zby, zbz, zca, zcb, zcc, zcd, zce, zcf, zcg, zch, zci, zcj, zck, zcl, zcm, zcn, zco, zcp, zcq, zcr, Nat.reduceEqDiff, Nat.reduceLT, Nat.reduceAdd, Nat.reduceSub, reduceIte, Kt_P, zcs, zct, zcu, zcv, zcw, zcx, zcy, zcz, zda, zdb, zdc, zdd, zde, zdf, zdg, zdh, zdi, zdj, zdk, reduceCtorEq, zdl, zdm, zdn, goInt, zdo, zdp, zdq, zdr, zds, zdt, zdu, zdv, zdw, zdx, zdy, zdz, zea, zeb, zec, zed, zdk, zee, zef, zeg, zeh, zei, zej, zek, zel, zem, zen, zeo, zep, zeq, zer, zes, zet, zeu, zev, zew, zex, zey, ya, yb, yc, yd, ye, yf, ts_int, ts_int64, ts_bool, ts_ints, ts_post, ts_posts, yg, yh, yi, yj, yk, yl, ym, ts_intsl, ts_int64s, ts_bools, ts_side, ts_sideb, ts_pints, ts_pbool, aPure, aLen, ywa, ywb, ywc, ywd, ywe, ywf, ywg, ywh, ywi, ywj, ywk, ywl, ywm, ywn, ywo, ts_string, ts_u8, ts_u64, ts_error, ts_bytes, ts_arr, ts_reader, ts_pbuilder, ts_builder, cv_64_8, cv_8_64, cv_64_i64, cv_i64_64, cv_64_int, cv_int_64, errV_0, he, herr]
      rw [CalF_cal (Kt_prim (by decide) _ _)]
      refine encode_ok A2 _ L hP hwf (by rw [← hcan]; omega) _ fun t A3 hE3 ht => ?_
      have hst : decide (bl t = bl s) = true := decide_eq_true (ht.trans hcan.symm)
      simp only [zaa, zab, zac, zad, zae, zaf, zag, zah, zai, zaj, zak, zal, zam, zan, zao, zap, zaq, zar, zas, zat, zau, zav, zaw, zax, zay, zaz, zba, aUn, zbb, zbc, zbd, zbe, zbf, zbg, zbh, zbi, zbj, zbk, zbl, zbm, zbn, flat, simple, zbo, zbp, zbq, zbr, zbs, zbt, zbu, zbv, zbw, zbx, zby, zbz, zca, zcb, zcc, zcd, zce, zcf, zcg, zch, zci, zcj, zck, zcl, zcm, zcn, zco, zcp, zcq, zcr, Nat.reduceEqDiff, Nat.reduceLT, Nat.reduceAdd, Nat.reduceSub, reduceIte, Kt_P, zcs, zct, zcu, zcv, zcw, zcx, zcy, zcz, zda, zdb, zdc, zdd, zde, zdf, zdg, zdh, zdi, zdj, zdk, reduceCtorEq, zdl, zdm, zdn, goInt, zdo, zdp, zdq, zdr, zds, zdt, zdu, zdv, zdw, zdx, zdy, zdz, zea, zeb, zec, zed, zdk, zee, zef, zeg, zeh, zei, zej, zek, zel, zem, zen, zeo, zep, zeq, zer, zes, zet, zeu, zev, zew, zex, zey, ya, yb, yc, yd, ye, yf, ts_int, ts_int64, ts_bool, ts_ints, ts_post, ts_posts, yg, yh, yi, yj, yk, yl, ym, ts_intsl, ts_int64s, ts_bools, ts_side, ts_sideb, ts_pints, ts_pbool, aPure, aLen, ywa, ywb, ywc, ywd, ywe, ywf, ywg, ywh, ywi, ywj, ywk, ywl, ywm, ywn, ywo, ts_string, ts_u8, ts_u64, ts_error, ts_bytes, ts_arr, ts_reader, ts_pbuilder, ts_builder, cv_64_8, cv_8_64, cv_64_i64, cv_i64_64, cv_64_int, cv_int_64, errV_0, herr2, str_eq, hst]
      exact hq A3 ((hE1.trans hE2).trans hE3)
    · have hit := h1 he (RKV Ints [])
      refine gathered_ok A1 _ [] _ hit (by simp) (by simp) _ fun v A2 hE2 hP => ?_
      obtain ⟨o, hv, _⟩ := hP.opened
      subst hv
      have hne : decide ((aF (bl s)).1 ≠ 0) = true := decide_eq_true he
      simp only [zaa, zab, zac, zad, zae, zaf, zag, zah, zai, zaj, zak, zal, zam, zan, zao, zap, zaq, zar, zas, zat, zau, zav, zaw, zax, zay, zaz, zba, aUn, zbb, zbc, zbd, zbe, zbf, zbg, zbh, zbi, zbj, zbk, zbl, zbm, zbn, flat, simple, zbo, zbp, zbq, zbr, zbs, zbt, zbu, zbv, zbw, zbx, zby, zbz, zca, zcb, zcc, zcd, zce, zcf, zcg, zch, zci, zcj, zck, zcl, zcm, zcn, zco, zcp, zcq, zcr, Nat.reduceEqDiff, Nat.reduceLT, Nat.reduceAdd, Nat.reduceSub, reduceIte, Kt_P, zcs, zct, zcu, zcv, zcw, zcx, zcy, zcz, zda, zdb, zdc, zdd, zde, zdf, zdg, zdh, zdi, zdj, zdk, reduceCtorEq, zdl, zdm, zdn, goInt, zdo, zdp, zdq, zdr, zds, zdt, zdu, zdv, zdw, zdx, zdy, zdz, zea, zeb, zec, zed, zdk, zee, zef, zeg, zeh, zei, zej, zek, zel, zem, zen, zeo, zep, zeq, zer, zes, zet, zeu, zev, zew, zex, zey, ya, yb, yc, yd, ye, yf, ts_int, ts_int64, ts_bool, ts_ints, ts_post, ts_posts, yg, yh, yi, yj, yk, yl, ym, ts_intsl, ts_int64s, ts_bools, ts_side, ts_sideb, ts_pints, ts_pbool, aPure, aLen, ywa, ywb, ywc, ywd, ywe, ywf, ywg, ywh, ywi, ywj, ywk, ywl, ywm, ywn, ywo, ts_string, ts_u8, ts_u64, ts_error, ts_bytes, ts_arr, ts_reader, ts_pbuilder, ts_builder, cv_64_8, cv_8_64, cv_64_i64, cv_i64_64, cv_64_int, cv_int_64, errV_0, err_neq, hne, List.length_nil]
      exact hq A2 (hE1.trans hE2)
end Go.Sh
