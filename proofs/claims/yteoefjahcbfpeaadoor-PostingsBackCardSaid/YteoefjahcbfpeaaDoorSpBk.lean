/- What single functions do: what is encoded is read as it was; cut short it is not taken. -/
import Derived.Test.YteoefjahcbfpeaaDoorSpCo
import Derived.Test.YteoefjahcbfpeaaDoorSpPl
import Derived.Test.YteoefjahcbfpeaaDoorSpI
import Derived.Test.YteoefjahcbfpeaaDoorSpJ
import Derived.Test.YteoefjahcbfpeaaDoorSpU
import Derived.Test.YteoefjahcbfpeaaDoorSpW
import Derived.Test.YteoefjahcbfpeaaDoorSpY
import Derived.Test.YteoefjahcbfpeaaDoorSkB
namespace Go.Sh
open Go Go.Proofs
set_option linter.unusedSimpArgs false
set_option linter.unusedVariables false
set_option maxRecDepth 4000
set_option maxHeartbeats 1000000

theorem fn_back : Kt.funcs 4 = some Tryd.f4 := by kernel_rfl
theorem fun_eql (g : FuncId) (cs : Array Value) (c : Bool) : aBin Tryd.prog .eql 35 c (.func (.func g) #[] cs) .nilFunc = some (.bool false) := by cases c <;> kernel_rfl
theorem fun_neq (g : FuncId) (cs : Array Value) (c : Bool) : aBin Tryd.prog .neq 35 c (.func (.func g) #[] cs) .nilFunc = some (.bool true) := by cases c <;> kernel_rfl
theorem err_neq0 : aBin Tryd.prog .neq 26 true .nilIface .nilIface = some (.bool false) := err_neq 0

theorem Posts.memJ {A : AHeap} {v : Value} {l : List PostL} (h : Posts A v l) : ∀ p ∈ l, inI64 p.1 ∧ ∀ x ∈ p.2, inI64 x := by
  intro p hp
  obtain ⟨i, hi, rfl⟩ := List.getElem_of_mem hp
  obtain ⟨vs, h0, _, h2, _⟩ := h
  obtain ⟨h3, h4⟩ := h2 i hi (by omega)
  exact ⟨h4, h3.2.1⟩
theorem wfs_docsUp {l : List PostL} (h : wfs l) (hI : ∀ p ∈ l, inI64 p.1 ∧ ∀ x ∈ p.2, inI64 x) : docsUp true 0 l := by
  obtain ⟨h1, h2⟩ := (wfs_iff l).1 h
  refine docsUp_of l true 0 (fun p hp => ?_) h1
  obtain ⟨k1, k2⟩ := hI p hp
  obtain ⟨k3, k4⟩ := (rises_iff p.2).1 (h2 p hp)
  unfold inI64 at k1
  refine ⟨fun h => absurd h (by simp), k1.1, by omega, placesUp_of (fun x hx => ?_) k4⟩
  have h5 := k2 x hx
  unfold inI64 at h5
  have := k3 x hx
  omega
theorem str_add (s t : ByteArray) (c : Bool) (h : s.size + t.size ≤ 1000000000) : aBin Tryd.prog .add 9 c (.string s) (.string t) = some (.string (s ++ t)) := by
  have : ¬ ((s.size + t.size : Nat) : Int) > IntKind.i64.max := by
    have : IntKind.i64.max = 9223372036854775807 := by decide
    omega
  simp only [aBin, strBin, this, if_false]
theorem bl_add (s t : ByteArray) : bl (s ++ t) = bl s ++ bl t := by
  simp [bl, ByteArray.data_append]
theorem bounds_to {n w : Nat} {k : IntKind} (h : w ≤ n) : aBounds n n none (some (.int k (w : Int))) = some (0, w) := by
  have := bounds_from (k := k) h
  simp only [aBounds] at this ⊢
  rw [if_pos ⟨by omega, by omega⟩]
  rfl

theorem back_ok (A : AHeap) (v : Value) (l : List PostL) (h : Posts A v l) (cut : Int) (hcut : inI64 cut) (Q : Value → AHeap → Prop) (hq : ∀ A', Ext A A' → Q (.bool true) A') : Cal Kt 4 #[v, .int .i64 cut] A Q := by
  refine Cal_of (nt := 79) (rs := [.tmp 4]) fn_back rfl rfl rfl (Nat.le_of_ble_eq_true rfl) ?_
  obtain ⟨o, hv, _⟩ := h.opened
  subst hv
  simp only [zaa, zab, zac, zad, zae, zaf, zag, zah, zai, zaj, zak, zal, zam, zan, zao, zap, zaq, zar, zas, zat, zau, zav, zaw, zax, zay, zaz, zba, aUn, zbb, zbc, zbd, zbe, zbf, zbg, zbh, zbi, zbj, zbk, zbl, zbm, zbn, flat, simple, zbo, zbp, zbq, zbr, zbs, zbt, zbu, zbv, zbw, zbx, zby, zbz, zca, zcb, zcc, zcd, zce, zcf, zcg, zch, zci, zcj, zck, zcl, zcm, zcn, zco, zcp, zcq, zcr, Nat.reduceEqDiff, Nat.reduceLT, Nat.reduceAdd, Nat.reduceSub, reduceIte, Kt_P, zcs, zct, zcu, zcv, zcw, zcx, zcy, zcz, zda, zdb, zdc, zdd, zde, zdf, zdg, zdh, zdi, zdj, zdk, reduceCtorEq, zdl, zdm, zdn, goInt, zdo, zdp, zdq, zdr, zds, zdt, zdu, zdv, zdw, zdx, zdy, zdz, zea, zeb, zec, zed, zdk, zee, zef, zeg, zeh, zei, zej, zek, zel, zem, zen, zeo, zep, zeq, zer, zes, zet, zeu, zev, zew, zex, zey, ya, yb, yc, yd, ye, yf, ts_int, ts_int64, ts_bool, ts_ints, ts_post, ts_posts, yg, yh, yi, yj, yk, yl, ym, ts_intsl, ts_int64s, ts_bools, ts_side, ts_sideb, ts_pints, ts_pbool, aPure, aLen, ywa, ywb, ywc, ywd, ywe, ywf, ywg, ywh, ywi, ywj, ywk, ywl, ywm, ywn, ywo, ts_string, ts_u8, ts_u64, ts_error, ts_bytes, ts_arr, ts_reader, ts_pbuilder, ts_builder, cv_64_8, cv_8_64, cv_64_i64, cv_i64_64, cv_64_int, cv_int_64, errV_0]
  rw [CalF_cal (Kt_prim (by decide) _ _)]
  refine tidy_ok A _ l h _ fun u A1 t hE1 hP1 hwf htl htp => ?_
  obtain ⟨ou, hu, _⟩ := hP1.opened
  subst hu
  simp only [zaa, zab, zac, zad, zae, zaf, zag, zah, zai, zaj, zak, zal, zam, zan, zao, zap, zaq, zar, zas, zat, zau, zav, zaw, zax, zay, zaz, zba, aUn, zbb, zbc, zbd, zbe, zbf, zbg, zbh, zbi, zbj, zbk, zbl, zbm, zbn, flat, simple, zbo, zbp, zbq, zbr, zbs, zbt, zbu, zbv, zbw, zbx, zby, zbz, zca, zcb, zcc, zcd, zce, zcf, zcg, zch, zci, zcj, zck, zcl, zcm, zcn, zco, zcp, zcq, zcr, Nat.reduceEqDiff, Nat.reduceLT, Nat.reduceAdd, Nat.reduceSub, reduceIte, Kt_P, zcs, zct, zcu, zcv, zcw, zcx, zcy, zcz, zda, zdb, zdc, zdd, zde, zdf, zdg, zdh, zdi, zdj, zdk, reduceCtorEq, zdl, zdm, zdn, goInt, zdo, zdp, zdq, zdr, zds, zdt, zdu, zdv, zdw, zdx, zdy, zdz, zea, zeb, zec, zed, zdk, zee, zef, zeg, zeh, zei, zej, zek, zel, zem, zen, zeo, zep, zeq, zer, zes, zet, zeu, zev, zew, zex, zey, ya, yb, yc, yd, ye, yf, ts_int, ts_int64, ts_bool, ts_ints, ts_post, ts_posts, yg, yh, yi, yj, yk, yl, ym, ts_intsl, ts_int64s, ts_bools, ts_side, ts_sideb, ts_pints, ts_pbool, aPure, aLen, ywa, ywb, ywc, ywd, ywe, ywf, ywg, ywh, ywi, ywj, ywk, ywl, ywm, ywn, ywo, ts_string, ts_u8, ts_u64, ts_error, ts_bytes, ts_arr, ts_reader, ts_pbuilder, ts_builder, cv_64_8, cv_8_64, cv_64_i64, cv_i64_64, cv_64_int, cv_int_64, errV_0]
  rw [CalF_cal (Kt_prim (by decide) _ _)]
  refine copyP_ok A1 _ t hP1 (by omega) (fun p hp => by have := htp p hp; omega) _ fun w A2 hE2 hN => ?_
  have hP2 := hN.posts (by omega)
  obtain ⟨ow, hw, _⟩ := hP2.opened
  subst hw
  have hup := wfs_docsUp hwf hP1.memJ
  have hlen := encL_300 hup htl htp
  have hat : docsAt 0 0 t := ⟨hup, fun h => absurd h (by omega), fun p hp => by have := htp p hp; omega⟩
  simp only [zaa, zab, zac, zad, zae, zaf, zag, zah, zai, zaj, zak, zal, zam, zan, zao, zap, zaq, zar, zas, zat, zau, zav, zaw, zax, zay, zaz, zba, aUn, zbb, zbc, zbd, zbe, zbf, zbg, zbh, zbi, zbj, zbk, zbl, zbm, zbn, flat, simple, zbo, zbp, zbq, zbr, zbs, zbt, zbu, zbv, zbw, zbx, zby, zbz, zca, zcb, zcc, zcd, zce, zcf, zcg, zch, zci, zcj, zck, zcl, zcm, zcn, zco, zcp, zcq, zcr, Nat.reduceEqDiff, Nat.reduceLT, Nat.reduceAdd, Nat.reduceSub, reduceIte, Kt_P, zcs, zct, zcu, zcv, zcw, zcx, zcy, zcz, zda, zdb, zdc, zdd, zde, zdf, zdg, zdh, zdi, zdj, zdk, reduceCtorEq, zdl, zdm, zdn, goInt, zdo, zdp, zdq, zdr, zds, zdt, zdu, zdv, zdw, zdx, zdy, zdz, zea, zeb, zec, zed, zdk, zee, zef, zeg, zeh, zei, zej, zek, zel, zem, zen, zeo, zep, zeq, zer, zes, zet, zeu, zev, zew, zex, zey, ya, yb, yc, yd, ye, yf, ts_int, ts_int64, ts_bool, ts_ints, ts_post, ts_posts, yg, yh, yi, yj, yk, yl, ym, ts_intsl, ts_int64s, ts_bools, ts_side, ts_sideb, ts_pints, ts_pbool, aPure, aLen, ywa, ywb, ywc, ywd, ywe, ywf, ywg, ywh, ywi, ywj, ywk, ywl, ywm, ywn, ywo, ts_string, ts_u8, ts_u64, ts_error, ts_bytes, ts_arr, ts_reader, ts_pbuilder, ts_builder, cv_64_8, cv_8_64, cv_64_i64, cv_i64_64, cv_64_int, cv_int_64, errV_0]
  rw [CalF_cal (Kt_prim (by decide) _ _)]
  refine encode_ok A2 _ t hP2 hwf hlen _ fun s A3 hE3 hs => ?_
  have hsl : (bl s).length ≤ 1000000 := by rw [hs]; exact hlen
  have hs0 : 0 < (bl s).length := by
    rw [hs]
    unfold encL
    rw [List.length_append]
    have := uintL_pos t.length
    omega
  have haF : aF (bl s) = (0, t) := by
    have := aF_enc hat (by omega) []
    rw [List.append_nil, ← hs] at this
    simpa using this
  simp only [zaa, zab, zac, zad, zae, zaf, zag, zah, zai, zaj, zak, zal, zam, zan, zao, zap, zaq, zar, zas, zat, zau, zav, zaw, zax, zay, zaz, zba, aUn, zbb, zbc, zbd, zbe, zbf, zbg, zbh, zbi, zbj, zbk, zbl, zbm, zbn, flat, simple, zbo, zbp, zbq, zbr, zbs, zbt, zbu, zbv, zbw, zbx, zby, zbz, zca, zcb, zcc, zcd, zce, zcf, zcg, zch, zci, zcj, zck, zcl, zcm, zcn, zco, zcp, zcq, zcr, Nat.reduceEqDiff, Nat.reduceLT, Nat.reduceAdd, Nat.reduceSub, reduceIte, Kt_P, zcs, zct, zcu, zcv, zcw, zcx, zcy, zcz, zda, zdb, zdc, zdd, zde, zdf, zdg, zdh, zdi, zdj, zdk, reduceCtorEq, zdl, zdm, zdn, goInt, zdo, zdp, zdq, zdr, zds, zdt, zdu, zdv, zdw, zdx, zdy, zdz, zea, zeb, zec, zed, zdk, zee, zef, zeg, zeh, zei, zej, zek, zel, zem, zen, zeo, zep, zeq, zer, zes, zet, zeu, zev, zew, zex, zey, ya, yb, yc, yd, ye, yf, ts_int, ts_int64, ts_bool, ts_ints, ts_post, ts_posts, yg, yh, yi, yj, yk, yl, ym, ts_intsl, ts_int64s, ts_bools, ts_side, ts_sideb, ts_pints, ts_pbool, aPure, aLen, ywa, ywb, ywc, ywd, ywe, ywf, ywg, ywh, ywi, ywj, ywk, ywl, ywm, ywn, ywo, ts_string, ts_u8, ts_u64, ts_error, ts_bytes, ts_arr, ts_reader, ts_pbuilder, ts_builder, cv_64_8, cv_8_64, cv_64_i64, cv_i64_64, cv_64_int, cv_int_64, errV_0]
  rw [CalF_cal (Kt_prim (by decide) _ _)]
  refine all_ok A3 s (by omega) _ fun g cs A4 hE4 h0 _ => ?_
  rw [haF] at h0
  obtain ⟨cb, hc1, hc2, hit⟩ := h0 rfl
  simp only [zaa, zab, zac, zad, zae, zaf, zag, zah, zai, zaj, zak, zal, zam, zan, zao, zap, zaq, zar, zas, zat, zau, zav, zaw, zax, zay, zaz, zba, aUn, zbb, zbc, zbd, zbe, zbf, zbg, zbh, zbi, zbj, zbk, zbl, zbm, zbn, flat, simple, zbo, zbp, zbq, zbr, zbs, zbt, zbu, zbv, zbw, zbx, zby, zbz, zca, zcb, zcc, zcd, zce, zcf, zcg, zch, zci, zcj, zck, zcl, zcm, zcn, zco, zcp, zcq, zcr, Nat.reduceEqDiff, Nat.reduceLT, Nat.reduceAdd, Nat.reduceSub, reduceIte, Kt_P, zcs, zct, zcu, zcv, zcw, zcx, zcy, zcz, zda, zdb, zdc, zdd, zde, zdf, zdg, zdh, zdi, zdj, zdk, reduceCtorEq, zdl, zdm, zdn, goInt, zdo, zdp, zdq, zdr, zds, zdt, zdu, zdv, zdw, zdx, zdy, zdz, zea, zeb, zec, zed, zdk, zee, zef, zeg, zeh, zei, zej, zek, zel, zem, zen, zeo, zep, zeq, zer, zes, zet, zeu, zev, zew, zex, zey, ya, yb, yc, yd, ye, yf, ts_int, ts_int64, ts_bool, ts_ints, ts_post, ts_posts, yg, yh, yi, yj, yk, yl, ym, ts_intsl, ts_int64s, ts_bools, ts_side, ts_sideb, ts_pints, ts_pbool, aPure, aLen, ywa, ywb, ywc, ywd, ywe, ywf, ywg, ywh, ywi, ywj, ywk, ywl, ywm, ywn, ywo, ts_string, ts_u8, ts_u64, ts_error, ts_bytes, ts_arr, ts_reader, ts_pbuilder, ts_builder, cv_64_8, cv_8_64, cv_64_i64, cv_i64_64, cv_64_int, cv_int_64, errV_0, haF, err_neq0, fun_eql]
  rw [CalF_cal (Kt_prim (by decide) _ _)]
  refine gathered_ok A4 _ t _ hit (by omega) (fun p hp => (hP1.memJ p hp).1) _ fun v5 A5 hE5 hP5 => ?_
  obtain ⟨o5, hv5, _⟩ := hP5.opened
  subst hv5
  have hP15 := hP1.fr (((hE2.trans hE3).trans hE4).trans hE5)
  simp only [zaa, zab, zac, zad, zae, zaf, zag, zah, zai, zaj, zak, zal, zam, zan, zao, zap, zaq, zar, zas, zat, zau, zav, zaw, zax, zay, zaz, zba, aUn, zbb, zbc, zbd, zbe, zbf, zbg, zbh, zbi, zbj, zbk, zbl, zbm, zbn, flat, simple, zbo, zbp, zbq, zbr, zbs, zbt, zbu, zbv, zbw, zbx, zby, zbz, zca, zcb, zcc, zcd, zce, zcf, zcg, zch, zci, zcj, zck, zcl, zcm, zcn, zco, zcp, zcq, zcr, Nat.reduceEqDiff, Nat.reduceLT, Nat.reduceAdd, Nat.reduceSub, reduceIte, Kt_P, zcs, zct, zcu, zcv, zcw, zcx, zcy, zcz, zda, zdb, zdc, zdd, zde, zdf, zdg, zdh, zdi, zdj, zdk, reduceCtorEq, zdl, zdm, zdn, goInt, zdo, zdp, zdq, zdr, zds, zdt, zdu, zdv, zdw, zdx, zdy, zdz, zea, zeb, zec, zed, zdk, zee, zef, zeg, zeh, zei, zej, zek, zel, zem, zen, zeo, zep, zeq, zer, zes, zet, zeu, zev, zew, zex, zey, ya, yb, yc, yd, ye, yf, ts_int, ts_int64, ts_bool, ts_ints, ts_post, ts_posts, yg, yh, yi, yj, yk, yl, ym, ts_intsl, ts_int64s, ts_bools, ts_side, ts_sideb, ts_pints, ts_pbool, aPure, aLen, ywa, ywb, ywc, ywd, ywe, ywf, ywg, ywh, ywi, ywj, ywk, ywl, ywm, ywn, ywo, ts_string, ts_u8, ts_u64, ts_error, ts_bytes, ts_arr, ts_reader, ts_pbuilder, ts_builder, cv_64_8, cv_8_64, cv_64_i64, cv_i64_64, cv_64_int, cv_int_64, errV_0]
  rw [CalF_cal (Kt_prim (by decide) _ _)]
  refine sameP_ok A5 _ _ t t hP5 hP15 _ ?_
  have htt : decide (t = t) = true := decide_eq_true rfl
  simp only [zaa, zab, zac, zad, zae, zaf, zag, zah, zai, zaj, zak, zal, zam, zan, zao, zap, zaq, zar, zas, zat, zau, zav, zaw, zax, zay, zaz, zba, aUn, zbb, zbc, zbd, zbe, zbf, zbg, zbh, zbi, zbj, zbk, zbl, zbm, zbn, flat, simple, zbo, zbp, zbq, zbr, zbs, zbt, zbu, zbv, zbw, zbx, zby, zbz, zca, zcb, zcc, zcd, zce, zcf, zcg, zch, zci, zcj, zck, zcl, zcm, zcn, zco, zcp, zcq, zcr, Nat.reduceEqDiff, Nat.reduceLT, Nat.reduceAdd, Nat.reduceSub, reduceIte, Kt_P, zcs, zct, zcu, zcv, zcw, zcx, zcy, zcz, zda, zdb, zdc, zdd, zde, zdf, zdg, zdh, zdi, zdj, zdk, reduceCtorEq, zdl, zdm, zdn, goInt, zdo, zdp, zdq, zdr, zds, zdt, zdu, zdv, zdw, zdx, zdy, zdz, zea, zeb, zec, zed, zdk, zee, zef, zeg, zeh, zei, zej, zek, zel, zem, zen, zeo, zep, zeq, zer, zes, zet, zeu, zev, zew, zex, zey, ya, yb, yc, yd, ye, yf, ts_int, ts_int64, ts_bool, ts_ints, ts_post, ts_posts, yg, yh, yi, yj, yk, yl, ym, ts_intsl, ts_int64s, ts_bools, ts_side, ts_sideb, ts_pints, ts_pbool, aPure, aLen, ywa, ywb, ywc, ywd, ywe, ywf, ywg, ywh, ywi, ywj, ywk, ywl, ywm, ywn, ywo, ts_string, ts_u8, ts_u64, ts_error, ts_bytes, ts_arr, ts_reader, ts_pbuilder, ts_builder, cv_64_8, cv_8_64, cv_64_i64, cv_i64_64, cv_64_int, cv_int_64, errV_0, htt]
  rw [CalF_cal (Kt_prim (by decide) _ _)]
  have hsz := bl_len s
  refine pick_ok A5 cut s.size hcut (by omega) (by unfold inI64; omega) _ fun r hr0 hr1 => ?_
  obtain ⟨m, rfl⟩ : ∃ m : Nat, r = (m : Int) := ⟨r.toNat, by omega⟩
  have hbt := bounds_to (k := .i64) (n := s.size) (w := m) (by omega)
  simp only [zaa, zab, zac, zad, zae, zaf, zag, zah, zai, zaj, zak, zal, zam, zan, zao, zap, zaq, zar, zas, zat, zau, zav, zaw, zax, zay, zaz, zba, aUn, zbb, zbc, zbd, zbe, zbf, zbg, zbh, zbi, zbj, zbk, zbl, zbm, zbn, flat, simple, zbo, zbp, zbq, zbr, zbs, zbt, zbu, zbv, zbw, zbx, zby, zbz, zca, zcb, zcc, zcd, zce, zcf, zcg, zch, zci, zcj, zck, zcl, zcm, zcn, zco, zcp, zcq, zcr, Nat.reduceEqDiff, Nat.reduceLT, Nat.reduceAdd, Nat.reduceSub, reduceIte, Kt_P, zcs, zct, zcu, zcv, zcw, zcx, zcy, zcz, zda, zdb, zdc, zdd, zde, zdf, zdg, zdh, zdi, zdj, zdk, reduceCtorEq, zdl, zdm, zdn, goInt, zdo, zdp, zdq, zdr, zds, zdt, zdu, zdv, zdw, zdx, zdy, zdz, zea, zeb, zec, zed, zdk, zee, zef, zeg, zeh, zei, zej, zek, zel, zem, zen, zeo, zep, zeq, zer, zes, zet, zeu, zev, zew, zex, zey, ya, yb, yc, yd, ye, yf, ts_int, ts_int64, ts_bool, ts_ints, ts_post, ts_posts, yg, yh, yi, yj, yk, yl, ym, ts_intsl, ts_int64s, ts_bools, ts_side, ts_sideb, ts_pints, ts_pbool, aPure, aLen, ywa, ywb, ywc, ywd, ywe, ywf, ywg, ywh, ywi, ywj, ywk, ywl, ywm, ywn, ywo, ts_string, ts_u8, ts_u64, ts_error, ts_bytes, ts_arr, ts_reader, ts_pbuilder, ts_builder, cv_64_8, cv_8_64, cv_64_i64, cv_i64_64, cv_64_int, cv_int_64, errV_0]
  refine OpW_sliceStr (s := s) (l := 0) (h := m) Tryd.underlying9 rfl (by simp only [zaa, zab, zac, zad, zae, zaf, zag, zah, zai, zaj, zak, zal, zam, zan, zao, zap, zaq, zar, zas, zat, zau, zav, zaw, zax, zay, zaz, zba, aUn, zbb, zbc, zbd, zbe, zbf, zbg, zbh, zbi, zbj, zbk, zbl, zbm, zbn, flat, simple, zbo, zbp, zbq, zbr, zbs, zbt, zbu, zbv, zbw, zbx, zby, zbz, zca, zcb, zcc, zcd, zce, zcf, zcg, zch, zci, zcj, zck, zcl, zcm, zcn, zco, zcp, zcq, zcr, Nat.reduceEqDiff, Nat.reduceLT, Nat.reduceAdd, Nat.reduceSub, reduceIte, Kt_P, zcs, zct, zcu, zcv, zcw, zcx, zcy, zcz, zda, zdb, zdc, zdd, zde, zdf, zdg, zdh, zdi, zdj, zdk, reduceCtorEq, zdl, zdm, zdn, goInt, zdo, zdp, zdq, zdr, zds, zdt, zdu, zdv, zdw, zdx, zdy, zdz, zea, zeb, zec, zed, zdk, zee, zef, zeg, zeh, zei, zej, zek, zel, zem, zen, zeo, zep, zeq, zer, zes, zet, zeu, zev, zew, zex, zey, ya, yb, yc, yd, ye, yf, ts_int, ts_int64, ts_bool, ts_ints, ts_post, ts_posts, yg, yh, yi, yj, yk, yl, ym, ts_intsl, ts_int64s, ts_bools, ts_side, ts_sideb, ts_pints, ts_pbool, aPure, aLen, ywa, ywb, ywc, ywd, ywe, ywf, ywg, ywh, ywi, ywj, ywk, ywl, ywm, ywn, ywo, ts_string, ts_u8, ts_u64, ts_error, ts_bytes, ts_arr, ts_reader, ts_pbuilder, ts_builder, cv_64_8, cv_8_64, cv_64_i64, cv_i64_64, cv_64_int, cv_int_64, errV_0]) (by simp only [zaa, zab, zac, zad, zae, zaf, zag, zah, zai, zaj, zak, zal, zam, zan, zao, zap, zaq, zar, zas, zat, zau, zav, zaw, zax, zay, zaz, zba, aUn, zbb, zbc, zbd, zbe, zbf, zbg, zbh, zbi, zbj, zbk, zbl, zbm, zbn, flat, simple, zbo, zbp, zbq, zbr, zbs, zbt, zbu, zbv, zbw, zbx, zby, zbz, zca, zcb, zcc, zcd, zce, zcf, zcg, zch, zci, zcj, zck, zcl, zcm, zcn, zco, zcp, zcq, zcr, Nat.reduceEqDiff, Nat.reduceLT, Nat.reduceAdd, Nat.reduceSub, reduceIte, Kt_P, zcs, zct, zcu, zcv, zcw, zcx, zcy, zcz, zda, zdb, zdc, zdd, zde, zdf, zdg, zdh, zdi, zdj, zdk, reduceCtorEq, zdl, zdm, zdn, goInt, zdo, zdp, zdq, zdr, zds, zdt, zdu, zdv, zdw, zdx, zdy, zdz, zea, zeb, zec, zed, zdk, zee, zef, zeg, zeh, zei, zej, zek, zel, zem, zen, zeo, zep, zeq, zer, zes, zet, zeu, zev, zew, zex, zey, ya, yb, yc, yd, ye, yf, ts_int, ts_int64, ts_bool, ts_ints, ts_post, ts_posts, yg, yh, yi, yj, yk, yl, ym, ts_intsl, ts_int64s, ts_bools, ts_side, ts_sideb, ts_pints, ts_pbool, aPure, aLen, ywa, ywb, ywc, ywd, ywe, ywf, ywg, ywh, ywi, ywj, ywk, ywl, ywm, ywn, ywo, ts_string, ts_u8, ts_u64, ts_error, ts_bytes, ts_arr, ts_reader, ts_pbuilder, ts_builder, cv_64_8, cv_8_64, cv_64_i64, cv_i64_64, cv_64_int, cv_int_64, errV_0, hbt]) ?_
  simp only [zaa, zab, zac, zad, zae, zaf, zag, zah, zai, zaj, zak, zal, zam, zan, zao, zap, zaq, zar, zas, zat, zau, zav, zaw, zax, zay, zaz, zba, aUn, zbb, zbc, zbd, zbe, zbf, zbg, zbh, zbi, zbj, zbk, zbl, zbm, zbn, flat, simple, zbo, zbp, zbq, zbr, zbs, zbt, zbu, zbv, zbw, zbx, zby, zbz, zca, zcb, zcc, zcd, zce, zcf, zcg, zch, zci, zcj, zck, zcl, zcm, zcn, zco, zcp, zcq, zcr, Nat.reduceEqDiff, Nat.reduceLT, Nat.reduceAdd, Nat.reduceSub, reduceIte, Kt_P, zcs, zct, zcu, zcv, zcw, zcx, zcy, zcz, zda, zdb, zdc, zdd, zde, zdf, zdg, zdh, zdi, zdj, zdk, reduceCtorEq, zdl, zdm, zdn, goInt, zdo, zdp, zdq, zdr, zds, zdt, zdu, zdv, zdw, zdx, zdy, zdz, zea, zeb, zec, zed, zdk, zee, zef, zeg, zeh, zei, zej, zek, zel, zem, zen, zeo, zep, zeq, zer, zes, zet, zeu, zev, zew, zex, zey, ya, yb, yc, yd, ye, yf, ts_int, ts_int64, ts_bool, ts_ints, ts_post, ts_posts, yg, yh, yi, yj, yk, yl, ym, ts_intsl, ts_int64s, ts_bools, ts_side, ts_sideb, ts_pints, ts_pbool, aPure, aLen, ywa, ywb, ywc, ywd, ywe, ywf, ywg, ywh, ywi, ywj, ywk, ywl, ywm, ywn, ywo, ts_string, ts_u8, ts_u64, ts_error, ts_bytes, ts_arr, ts_reader, ts_pbuilder, ts_builder, cv_64_8, cv_8_64, cv_64_i64, cv_i64_64, cv_64_int, cv_int_64, errV_0]
  rw [CalF_cal (Kt_prim (by decide) _ _)]
  have hbs : bl (s.extract 0 m) = (encL t).take m := by rw [bl_extract, hs]; rfl
  have hk2 : (aF (bl (s.extract 0 m))).1 = 2 := by rw [hbs]; exact aF_cut hat (by omega) (by rw [← hs]; omega)
  refine all_ok A5 (s.extract 0 m) (by rw [hbs, List.length_take]; omega) _ fun g6 cs6 A6 hE6 _ h6 => ?_
  rw [hk2] at h6
  have hit6 := h6 (by omega) (RKV Ints [])
  have hadd := str_add s ⟨#[0]⟩ true (by have : (⟨#[0]⟩ : ByteArray).size = 1 := rfl
                                         omega)
  simp only [zaa, zab, zac, zad, zae, zaf, zag, zah, zai, zaj, zak, zal, zam, zan, zao, zap, zaq, zar, zas, zat, zau, zav, zaw, zax, zay, zaz, zba, aUn, zbb, zbc, zbd, zbe, zbf, zbg, zbh, zbi, zbj, zbk, zbl, zbm, zbn, flat, simple, zbo, zbp, zbq, zbr, zbs, zbt, zbu, zbv, zbw, zbx, zby, zbz, zca, zcb, zcc, zcd, zce, zcf, zcg, zch, zci, zcj, zck, zcl, zcm, zcn, zco, zcp, zcq, zcr, Nat.reduceEqDiff, Nat.reduceLT, Nat.reduceAdd, Nat.reduceSub, reduceIte, Kt_P, zcs, zct, zcu, zcv, zcw, zcx, zcy, zcz, zda, zdb, zdc, zdd, zde, zdf, zdg, zdh, zdi, zdj, zdk, reduceCtorEq, zdl, zdm, zdn, goInt, zdo, zdp, zdq, zdr, zds, zdt, zdu, zdv, zdw, zdx, zdy, zdz, zea, zeb, zec, zed, zdk, zee, zef, zeg, zeh, zei, zej, zek, zel, zem, zen, zeo, zep, zeq, zer, zes, zet, zeu, zev, zew, zex, zey, ya, yb, yc, yd, ye, yf, ts_int, ts_int64, ts_bool, ts_ints, ts_post, ts_posts, yg, yh, yi, yj, yk, yl, ym, ts_intsl, ts_int64s, ts_bools, ts_side, ts_sideb, ts_pints, ts_pbool, aPure, aLen, ywa, ywb, ywc, ywd, ywe, ywf, ywg, ywh, ywi, ywj, ywk, ywl, ywm, ywn, ywo, ts_string, ts_u8, ts_u64, ts_error, ts_bytes, ts_arr, ts_reader, ts_pbuilder, ts_builder, cv_64_8, cv_8_64, cv_64_i64, cv_i64_64, cv_64_int, cv_int_64, errV_0, hk2, hadd]
  rw [CalF_cal (Kt_prim (by decide) _ _)]
  have hb7 : bl (s ++ ⟨#[0]⟩) = encL t ++ [0] := by rw [bl_add, hs]; rfl
  have haF7 : aF (bl (s ++ ⟨#[0]⟩)) = (3, t) := by
    rw [hb7, aF_enc hat (by omega)]
    simp
  refine all_ok A6 (s ++ ⟨#[0]⟩) (by rw [hb7, List.length_append, ← hs]; simp; omega) _ fun g7 cs7 A7 hE7 _ h7 => ?_
  simp only [zaa, zab, zac, zad, zae, zaf, zag, zah, zai, zaj, zak, zal, zam, zan, zao, zap, zaq, zar, zas, zat, zau, zav, zaw, zax, zay, zaz, zba, aUn, zbb, zbc, zbd, zbe, zbf, zbg, zbh, zbi, zbj, zbk, zbl, zbm, zbn, flat, simple, zbo, zbp, zbq, zbr, zbs, zbt, zbu, zbv, zbw, zbx, zby, zbz, zca, zcb, zcc, zcd, zce, zcf, zcg, zch, zci, zcj, zck, zcl, zcm, zcn, zco, zcp, zcq, zcr, Nat.reduceEqDiff, Nat.reduceLT, Nat.reduceAdd, Nat.reduceSub, reduceIte, Kt_P, zcs, zct, zcu, zcv, zcw, zcx, zcy, zcz, zda, zdb, zdc, zdd, zde, zdf, zdg, zdh, zdi, zdj, zdk, reduceCtorEq, zdl, zdm, zdn, goInt, zdo, zdp, zdq, zdr, zds, zdt, zdu, zdv, zdw, zdx, zdy, zdz, zea, zeb, zec, zed, zdk, zee, zef, zeg, zeh, zei, zej, zek, zel, zem, zen, zeo, zep, zeq, zer, zes, zet, zeu, zev, zew, zex, zey, ya, yb, yc, yd, ye, yf, ts_int, ts_int64, ts_bool, ts_ints, ts_post, ts_posts, yg, yh, yi, yj, yk, yl, ym, ts_intsl, ts_int64s, ts_bools, ts_side, ts_sideb, ts_pints, ts_pbool, aPure, aLen, ywa, ywb, ywc, ywd, ywe, ywf, ywg, ywh, ywi, ywj, ywk, ywl, ywm, ywn, ywo, ts_string, ts_u8, ts_u64, ts_error, ts_bytes, ts_arr, ts_reader, ts_pbuilder, ts_builder, cv_64_8, cv_8_64, cv_64_i64, cv_i64_64, cv_64_int, cv_int_64, errV_0, haF7]
  rw [CalF_cal (Kt_prim (by decide) _ _)]
  refine plain_ok A7 2 2 (by omega) (by omega) _ fun A8 hE8 => ?_
  have hc2 : (((2 : Nat) : Int) = 2) = True := by simp
  have hc0 : (((0 : Nat) : Int) = 0) = True := by simp
  have hc3 : (((3 : Nat) : Int) = 3) = True := by simp
  simp only [zaa, zab, zac, zad, zae, zaf, zag, zah, zai, zaj, zak, zal, zam, zan, zao, zap, zaq, zar, zas, zat, zau, zav, zaw, zax, zay, zaz, zba, aUn, zbb, zbc, zbd, zbe, zbf, zbg, zbh, zbi, zbj, zbk, zbl, zbm, zbn, flat, simple, zbo, zbp, zbq, zbr, zbs, zbt, zbu, zbv, zbw, zbx, zby, zbz, zca, zcb, zcc, zcd, zce, zcf, zcg, zch, zci, zcj, zck, zcl, zcm, zcn, zco, zcp, zcq, zcr, Nat.reduceEqDiff, Nat.reduceLT, Nat.reduceAdd, Nat.reduceSub, reduceIte, Kt_P, zcs, zct, zcu, zcv, zcw, zcx, zcy, zcz, zda, zdb, zdc, zdd, zde, zdf, zdg, zdh, zdi, zdj, zdk, reduceCtorEq, zdl, zdm, zdn, goInt, zdo, zdp, zdq, zdr, zds, zdt, zdu, zdv, zdw, zdx, zdy, zdz, zea, zeb, zec, zed, zdk, zee, zef, zeg, zeh, zei, zej, zek, zel, zem, zen, zeo, zep, zeq, zer, zes, zet, zeu, zev, zew, zex, zey, ya, yb, yc, yd, ye, yf, ts_int, ts_int64, ts_bool, ts_ints, ts_post, ts_posts, yg, yh, yi, yj, yk, yl, ym, ts_intsl, ts_int64s, ts_bools, ts_side, ts_sideb, ts_pints, ts_pbool, aPure, aLen, ywa, ywb, ywc, ywd, ywe, ywf, ywg, ywh, ywi, ywj, ywk, ywl, ywm, ywn, ywo, ts_string, ts_u8, ts_u64, ts_error, ts_bytes, ts_arr, ts_reader, ts_pbuilder, ts_builder, cv_64_8, cv_8_64, cv_64_i64, cv_i64_64, cv_64_int, cv_int_64, errV_0, fun_neq, hc2]
  rw [CalF_cal (Kt_prim (by decide) _ _)]
  refine gathered_ok A8 _ [] _ (hit6.fr (hE7.trans hE8) fun _ _ h => h) (by simp) (by simp) _ fun v9 A9 hE9 hP9 => ?_
  obtain ⟨o9, hv9, _⟩ := hP9.opened
  subst hv9
  simp only [zaa, zab, zac, zad, zae, zaf, zag, zah, zai, zaj, zak, zal, zam, zan, zao, zap, zaq, zar, zas, zat, zau, zav, zaw, zax, zay, zaz, zba, aUn, zbb, zbc, zbd, zbe, zbf, zbg, zbh, zbi, zbj, zbk, zbl, zbm, zbn, flat, simple, zbo, zbp, zbq, zbr, zbs, zbt, zbu, zbv, zbw, zbx, zby, zbz, zca, zcb, zcc, zcd, zce, zcf, zcg, zch, zci, zcj, zck, zcl, zcm, zcn, zco, zcp, zcq, zcr, Nat.reduceEqDiff, Nat.reduceLT, Nat.reduceAdd, Nat.reduceSub, reduceIte, Kt_P, zcs, zct, zcu, zcv, zcw, zcx, zcy, zcz, zda, zdb, zdc, zdd, zde, zdf, zdg, zdh, zdi, zdj, zdk, reduceCtorEq, zdl, zdm, zdn, goInt, zdo, zdp, zdq, zdr, zds, zdt, zdu, zdv, zdw, zdx, zdy, zdz, zea, zeb, zec, zed, zdk, zee, zef, zeg, zeh, zei, zej, zek, zel, zem, zen, zeo, zep, zeq, zer, zes, zet, zeu, zev, zew, zex, zey, ya, yb, yc, yd, ye, yf, ts_int, ts_int64, ts_bool, ts_ints, ts_post, ts_posts, yg, yh, yi, yj, yk, yl, ym, ts_intsl, ts_int64s, ts_bools, ts_side, ts_sideb, ts_pints, ts_pbool, aPure, aLen, ywa, ywb, ywc, ywd, ywe, ywf, ywg, ywh, ywi, ywj, ywk, ywl, ywm, ywn, ywo, ts_string, ts_u8, ts_u64, ts_error, ts_bytes, ts_arr, ts_reader, ts_pbuilder, ts_builder, cv_64_8, cv_8_64, cv_64_i64, cv_i64_64, cv_64_int, cv_int_64, errV_0, List.length_nil, hc0]
  rw [CalF_cal (Kt_prim (by decide) _ _)]
  refine plain_ok A9 3 3 (by omega) (by omega) _ fun A10 hE10 => ?_
  simp only [zaa, zab, zac, zad, zae, zaf, zag, zah, zai, zaj, zak, zal, zam, zan, zao, zap, zaq, zar, zas, zat, zau, zav, zaw, zax, zay, zaz, zba, aUn, zbb, zbc, zbd, zbe, zbf, zbg, zbh, zbi, zbj, zbk, zbl, zbm, zbn, flat, simple, zbo, zbp, zbq, zbr, zbs, zbt, zbu, zbv, zbw, zbx, zby, zbz, zca, zcb, zcc, zcd, zce, zcf, zcg, zch, zci, zcj, zck, zcl, zcm, zcn, zco, zcp, zcq, zcr, Nat.reduceEqDiff, Nat.reduceLT, Nat.reduceAdd, Nat.reduceSub, reduceIte, Kt_P, zcs, zct, zcu, zcv, zcw, zcx, zcy, zcz, zda, zdb, zdc, zdd, zde, zdf, zdg, zdh, zdi, zdj, zdk, reduceCtorEq, zdl, zdm, zdn, goInt, zdo, zdp, zdq, zdr, zds, zdt, zdu, zdv, zdw, zdx, zdy, zdz, zea, zeb, zec, zed, zdk, zee, zef, zeg, zeh, zei, zej, zek, zel, zem, zen, zeo, zep, zeq, zer, zes, zet, zeu, zev, zew, zex, zey, ya, yb, yc, yd, ye, yf, ts_int, ts_int64, ts_bool, ts_ints, ts_post, ts_posts, yg, yh, yi, yj, yk, yl, ym, ts_intsl, ts_int64s, ts_bools, ts_side, ts_sideb, ts_pints, ts_pbool, aPure, aLen, ywa, ywb, ywc, ywd, ywe, ywf, ywg, ywh, ywi, ywj, ywk, ywl, ywm, ywn, ywo, ts_string, ts_u8, ts_u64, ts_error, ts_bytes, ts_arr, ts_reader, ts_pbuilder, ts_builder, cv_64_8, cv_8_64, cv_64_i64, cv_i64_64, cv_64_int, cv_int_64, errV_0, hc3]
  refine CalF_prim (works_prim _) ?_
  simp only [zaa, zab, zac, zad, zae, zaf, zag, zah, zai, zaj, zak, zal, zam, zan, zao, zap, zaq, zar, zas, zat, zau, zav, zaw, zax, zay, zaz, zba, aUn, zbb, zbc, zbd, zbe, zbf, zbg, zbh, zbi, zbj, zbk, zbl, zbm, zbn, flat, simple, zbo, zbp, zbq, zbr, zbs, zbt, zbu, zbv, zbw, zbx, zby, zbz, zca, zcb, zcc, zcd, zce, zcf, zcg, zch, zci, zcj, zck, zcl, zcm, zcn, zco, zcp, zcq, zcr, Nat.reduceEqDiff, Nat.reduceLT, Nat.reduceAdd, Nat.reduceSub, reduceIte, Kt_P, zcs, zct, zcu, zcv, zcw, zcx, zcy, zcz, zda, zdb, zdc, zdd, zde, zdf, zdg, zdh, zdi, zdj, zdk, reduceCtorEq, zdl, zdm, zdn, goInt, zdo, zdp, zdq, zdr, zds, zdt, zdu, zdv, zdw, zdx, zdy, zdz, zea, zeb, zec, zed, zdk, zee, zef, zeg, zeh, zei, zej, zek, zel, zem, zen, zeo, zep, zeq, zer, zes, zet, zeu, zev, zew, zex, zey, ya, yb, yc, yd, ye, yf, ts_int, ts_int64, ts_bool, ts_ints, ts_post, ts_posts, yg, yh, yi, yj, yk, yl, ym, ts_intsl, ts_int64s, ts_bools, ts_side, ts_sideb, ts_pints, ts_pbool, aPure, aLen, ywa, ywb, ywc, ywd, ywe, ywf, ywg, ywh, ywi, ywj, ywk, ywl, ywm, ywn, ywo, ts_string, ts_u8, ts_u64, ts_error, ts_bytes, ts_arr, ts_reader, ts_pbuilder, ts_builder, cv_64_8, cv_8_64, cv_64_i64, cv_i64_64, cv_64_int, cv_int_64, errV_0]
  exact hq A10 (((((((((hE1.trans hE2).trans hE3).trans hE4).trans hE5).trans hE6).trans hE7).trans hE8).trans hE9).trans hE10)
end Go.Sh
