/- What single functions do, part 17: posts out of bytes, one by one. -/
import Derived.Test.YteoefjahcbfpeaaDoorSpQ
namespace Go.Sh
open Go Go.Proofs
set_option linter.unusedSimpArgs false
set_option linter.unusedVariables false
set_option maxRecDepth 4000
set_option maxHeartbeats 1000000

theorem fn_each : Kt.funcs 36 = some Tryd.f36 := by kernel_rfl

/-- The rounds of a function that is handed items, whatever function value that is. -/
structure RoundsV (K : Ctx) (fv : Value) (N : Nat) (R : Nat → Array Value → AHeap → Prop) (base : Nat) (Rd : Nat → Prop) (I : Nat → (Nat → Prop) → AHeap → Prop) (S : (Nat → Prop) → AHeap → Prop) : Prop where
  round : ∀ i W A xs, i < N → I i W A → base ≤ A.next → (∀ b, W b → b < A.next ∧ ¬ Rd b) → R i xs A → CalV K fv xs A fun v A' =>
    ∃ W', Fr W A A' ∧ (∀ b, W' b → b < A'.next ∧ (W b ∨ A.next ≤ b)) ∧ ((v = .bool true ∧ I (i + 1) W' A') ∨ (v = .bool false ∧ S W' A'))
  stab : ∀ i W A A', I i W A → Keep base W A A' → I i W A'
  stabS : ∀ W A A', S W A → Keep base W A A' → S W A'
theorem Rounds.toV {K : Ctx} {l N : Nat} {R : Nat → Array Value → AHeap → Prop} {base : Nat} {Rd : Nat → Prop} {I : Nat → (Nat → Prop) → AHeap → Prop} {S : (Nat → Prop) → AHeap → Prop} (h : Rounds K l N R base Rd I S) :
    RoundsV K (.func (.yield l) #[] #[]) N R base Rd I S :=
  ⟨fun i W A xs h1 h2 h3 h4 h5 => by
    rw [CalV_yield, Array.empty_append]
    exact h.round i W A xs h1 h2 h3 h4 h5, h.stab, h.stabS⟩

theorem str_ne (s : ByteArray) (c : Bool) : aBin Tryd.prog .neq 9 c (.string s) (.string ⟨#[]⟩) = some (.bool (decide (bl s ≠ []))) := by
  have h0 : bl (⟨#[]⟩ : ByteArray) = [] := rfl
  have : (!(bl s == ([] : List UInt8))) = decide (bl s ≠ []) := by
    cases h : bl s <;> rfl
  simp only [aBin, strBin, toList_bl, h0, this]

theorem wrap_i64_lo {x : Int} (h : -18446744073709551616 ≤ x ∧ x < -9223372036854775808) : IntKind.i64.wrap x = x + 18446744073709551616 := by
  obtain ⟨h1, h2⟩ := h
  simp [IntKind.wrap, IntKind.signed, IntKind.bits]
  split <;> omega
theorem add_doc {doc : Int} {x : Nat} (hd : inI64 doc) (hx : (x : Int) ≤ 9223372036854775807 - doc) : IntKind.i64.wrap (doc + IntKind.i64.wrap (x : Int)) = doc + x := by
  unfold inI64 at hd
  by_cases h : x < 9223372036854775808
  · rw [wrap_i64 (x := (x : Int)) (by omega), wrap_i64 (by omega)]
  · rw [wrap_i64_hi (x := (x : Int)) (by omega), wrap_i64_lo (by omega)]
    omega

theorem tz_ints' : tzero Tryd.prog 42 = some (.slice none 0 0) := tz_ints

theorem each_ok (A1 : AHeap) (br : Nat) (s : ByteArray) (fv : Value) (N : Nat) (R : Nat → Array Value → AHeap → Prop) (base : Nat) (Rd : Nat → Prop) (I : Nat → (Nat → Prop) → AHeap → Prop) (S : (Nat → Prop) → AHeap → Prop) (W1 : Nat → Prop)
    (h : Rdr A1 br s 0) (hs : (bl s).length ≤ 2000000) (hR : RoundsV Kt fv N R base Rd I S) (hbase : base ≤ br) (hI : I 0 W1 A1) (hW1 : ∀ b, W1 b → b < A1.next ∧ ¬ Rd b ∧ b ≠ br) (hRd : ∀ b, Rd b → b < A1.next)
    (hItem : ∀ i d pl, i < 18446744073709551616 → (∀ L, aF (bl s) = (0, L) → ∃ h : i < L.length, L[i] = (d, pl)) → i < N ∧ ∀ u B, Ints B u pl → inI64 d → R i #[.int .i64 d, u] B) (Q : Value → AHeap → Prop)
    (hQ : ∀ A' W' s' k', Fr (fun b => W1 b ∨ b = br) A1 A' → (∀ b, W' b → b < A'.next ∧ (W1 b ∨ A1.next ≤ b)) → (S W' A' ∨ (k' = (aF (bl s)).1 ∧ Rdr A' br s' k' ∧ ∃ i, I i W' A' ∧ (k' = 0 → i = (aF (bl s)).2.length))) → Q (.tuple #[]) A') :
    Cal Kt 36 #[.pointer (some ⟨br, 0, none⟩), fv] A1 Q := by
  refine Cal_of (nt := 75) (rs := []) fn_each rfl rfl rfl (Nat.le_of_ble_eq_true rfl) ?_
  simp only [zaa, zab, zac, zad, zae, zaf, zag, zah, zai, zaj, zak, zal, zam, zan, zao, zap, zaq, zar, zas, zat, zau, zav, zaw, zax, zay, zaz, zba, aUn, zbb, zbc, zbd, zbe, zbf, zbg, zbh, zbi, zbj, zbk, zbl, zbm, zbn, flat, simple, zbo, zbp, zbq, zbr, zbs, zbt, zbu, zbv, zbw, zbx, zby, zbz, zca, zcb, zcc, zcd, zce, zcf, zcg, zch, zci, zcj, zck, zcl, zcm, zcn, zco, zcp, zcq, zcr, Nat.reduceEqDiff, Nat.reduceLT, Nat.reduceAdd, Nat.reduceSub, reduceIte, Kt_P, zcs, zct, zcu, zcv, zcw, zcx, zcy, zcz, zda, zdb, zdc, zdd, zde, zdf, zdg, zdh, zdi, zdj, zdk, reduceCtorEq, zdl, zdm, zdn, goInt, zdo, zdp, zdq, zdr, zds, zdt, zdu, zdv, zdw, zdx, zdy, zdz, zea, zeb, zec, zed, zdk, zee, zef, zeg, zeh, zei, zej, zek, zel, zem, zen, zeo, zep, zeq, zer, zes, zet, zeu, zev, zew, zex, zey, ya, yb, yc, yd, ye, yf, ts_int, ts_int64, ts_bool, ts_ints, ts_post, ts_posts, yg, yh, yi, yj, yk, yl, ym, ts_intsl, ts_int64s, ts_bools, ts_side, ts_sideb, ts_pints, ts_pbool, aPure, aLen, ywa, ywb, ywc, ywd, ywe, ywf, ywg, ywh, ywi, ywj, ywk, ywl, ywm, ywn, ywo, ts_string, ts_u8, ts_u64, ts_error, ts_bytes, ts_arr, ts_reader, ts_pbuilder, ts_builder, cv_64_8, cv_8_64, cv_64_i64, cv_i64_64, cv_64_int, cv_int_64, errV_0]
  rw [CalF_cal (Kt_prim (by decide) _ _)]
  have hbr0 := h.1
  refine runi_ok A1 br s 0 h _ fun A2 s0 k0 n hn2 hF2 hR2 hc n64 => ?_
  rcases hc with ⟨hc, _⟩ | ⟨_, hn, hk0, hs0⟩
  · exact absurd rfl hc
  simp only [zaa, zab, zac, zad, zae, zaf, zag, zah, zai, zaj, zak, zal, zam, zan, zao, zap, zaq, zar, zas, zat, zau, zav, zaw, zax, zay, zaz, zba, aUn, zbb, zbc, zbd, zbe, zbf, zbg, zbh, zbi, zbj, zbk, zbl, zbm, zbn, flat, simple, zbo, zbp, zbq, zbr, zbs, zbt, zbu, zbv, zbw, zbx, zby, zbz, zca, zcb, zcc, zcd, zce, zcf, zcg, zch, zci, zcj, zck, zcl, zcm, zcn, zco, zcp, zcq, zcr, Nat.reduceEqDiff, Nat.reduceLT, Nat.reduceAdd, Nat.reduceSub, reduceIte, Kt_P, zcs, zct, zcu, zcv, zcw, zcx, zcy, zcz, zda, zdb, zdc, zdd, zde, zdf, zdg, zdh, zdi, zdj, zdk, reduceCtorEq, zdl, zdm, zdn, goInt, zdo, zdp, zdq, zdr, zds, zdt, zdu, zdv, zdw, zdx, zdy, zdz, zea, zeb, zec, zed, zdk, zee, zef, zeg, zeh, zei, zej, zek, zel, zem, zen, zeo, zep, zeq, zer, zes, zet, zeu, zev, zew, zex, zey, ya, yb, yc, yd, ye, yf, ts_int, ts_int64, ts_bool, ts_ints, ts_post, ts_posts, yg, yh, yi, yj, yk, yl, ym, ts_intsl, ts_int64s, ts_bools, ts_side, ts_sideb, ts_pints, ts_pbool, aPure, aLen, ywa, ywb, ywc, ywd, ywe, ywf, ywg, ywh, ywi, ywj, ywk, ywl, ywm, ywn, ywo, ts_string, ts_u8, ts_u64, ts_error, ts_bytes, ts_arr, ts_reader, ts_pbuilder, ts_builder, cv_64_8, cv_8_64, cv_64_i64, cv_i64_64, cv_64_int, cv_int_64, errV_0]
  have hK2 : Keep base W1 A1 A2 := hF2.keep fun b hb h => by subst h; exact ⟨hbase, fun hw => (hW1 _ hw).2.2 rfl⟩
  have hEdef : k0 = 0 → aF (bl s) = (if (eF (bl s).length.succ 0 n 0 (bl s0) []).1 = 0 then (if (eF (bl s).length.succ 0 n 0 (bl s0) []).2.1 = [] then 0 else 3, (eF (bl s).length.succ 0 n 0 (bl s0) []).2.2) else ((eF (bl s).length.succ 0 n 0 (bl s0) []).1, [])) := fun h0 => by
    unfold aF; rw [if_pos (by rw [← hk0]; exact h0), ← hn, ← hs0]
  refine Lop_inv (fun m e G => ∃ (i : Nat) (doc : Int) (s' : ByteArray) (k' : Nat) (W : Nat → Prop) (acc : List PostL), (e 0 = .pointer (some ⟨br, 0, none⟩) ∧ e 1 = fv ∧ e 4 = .int .u64 n ∧ e 5 = .int .i64 doc ∧ e 6 = .int .u64 i) ∧ m = n - i ∧ i ≤ n ∧
      A1.next ≤ G.next ∧ Rdr G br s' k' ∧ I i W G ∧ Fr (fun b => W1 b ∨ b = br) A1 G ∧ (∀ b, W b → b < G.next ∧ (W1 b ∨ A1.next ≤ b) ∧ b ≠ br ∧ ¬ Rd b) ∧
      ((k' ≠ 0 ∧ k' = k0 ∧ n = 0 ∧ i = 0) ∨ (k' = 0 ∧ k0 = 0 ∧ inI64 doc ∧ acc.length = i ∧ (bl s').length ≤ 2000000 ∧ ∃ f, (bl s').length < f ∧ eF f i n doc (bl s') acc = eF (bl s).length.succ 0 n 0 (bl s0) [])))
    ?_ n _ _ ⟨0, 0, s0, k0, W1, [], by simp [put_at, argEnv], by simp, by omega, by omega, hR2, hR.stab _ _ _ _ hI hK2, hF2.weaken fun b _ h => .inr h, fun b hb => ⟨by have := (hW1 b hb).1; omega, .inl hb, (hW1 b hb).2.2, (hW1 b hb).2.1⟩, ?_⟩
  · rintro m e G ⟨i, doc, s', k', W, acc, ⟨e0, e1, e4, e5, e6⟩, rfl, hin, hG1, hRd', hIi, hF, hWW, hcase⟩
    have l1 := hRd'.load (P := Tryd.prog) (o := 1) (t := 26) Tryd.underlying26 rfl rfl
    have l0 := hRd'.load (P := Tryd.prog) (o := 0) (t := 9) Tryd.underlying9 rfl rfl
    have hWo : ∀ b, W b → b < G.next ∧ (W1 b ∨ A1.next ≤ b) := fun b hb => ⟨(hWW b hb).1, (hWW b hb).2.1⟩
    simp only [zaa, zab, zac, zad, zae, zaf, zag, zah, zai, zaj, zak, zal, zam, zan, zao, zap, zaq, zar, zas, zat, zau, zav, zaw, zax, zay, zaz, zba, aUn, zbb, zbc, zbd, zbe, zbf, zbg, zbh, zbi, zbj, zbk, zbl, zbm, zbn, flat, simple, zbo, zbp, zbq, zbr, zbs, zbt, zbu, zbv, zbw, zbx, zby, zbz, zca, zcb, zcc, zcd, zce, zcf, zcg, zch, zci, zcj, zck, zcl, zcm, zcn, zco, zcp, zcq, zcr, Nat.reduceEqDiff, Nat.reduceLT, Nat.reduceAdd, Nat.reduceSub, reduceIte, Kt_P, zcs, zct, zcu, zcv, zcw, zcx, zcy, zcz, zda, zdb, zdc, zdd, zde, zdf, zdg, zdh, zdi, zdj, zdk, reduceCtorEq, zdl, zdm, zdn, goInt, zdo, zdp, zdq, zdr, zds, zdt, zdu, zdv, zdw, zdx, zdy, zdz, zea, zeb, zec, zed, zdk, zee, zef, zeg, zeh, zei, zej, zek, zel, zem, zen, zeo, zep, zeq, zer, zes, zet, zeu, zev, zew, zex, zey, ya, yb, yc, yd, ye, yf, ts_int, ts_int64, ts_bool, ts_ints, ts_post, ts_posts, yg, yh, yi, yj, yk, yl, ym, ts_intsl, ts_int64s, ts_bools, ts_side, ts_sideb, ts_pints, ts_pbool, aPure, aLen, ywa, ywb, ywc, ywd, ywe, ywf, ywg, ywh, ywi, ywj, ywk, ywl, ywm, ywn, ywo, ts_string, ts_u8, ts_u64, ts_error, ts_bytes, ts_arr, ts_reader, ts_pbuilder, ts_builder, cv_64_8, cv_8_64, cv_64_i64, cv_i64_64, cv_64_int, cv_int_64, errV_0, e0, e1, e4, e5, e6]
    refine Grd_of (fun hlt => ?_) (fun hge => ?_)
    · rcases hcase with ⟨c1, c2, c3, c4⟩ | ⟨rfl, ck0, cd, ca, cs, f, cf, cE⟩
      · omega
      have herr := err_eql 0
      rw [errV_0] at herr l1
      obtain ⟨f0, rfl⟩ : ∃ f0, f = f0 + 1 := ⟨f - 1, by omega⟩
      rw [eF_step, if_pos hlt] at cE
      obtain ⟨u1, u2⟩ := rdU_fit (bl s')
      have hi0 : ((i : Int) = 0) = (i = 0) := propext (by omega)
      have hisucc : IntKind.u64.wrap ((i : Int) + 1) = ((i + 1 : Nat) : Int) := by rw [wrap_u64 (by omega)]; omega
      have hbrG := hRd'.1
      simp only [zaa, zab, zac, zad, zae, zaf, zag, zah, zai, zaj, zak, zal, zam, zan, zao, zap, zaq, zar, zas, zat, zau, zav, zaw, zax, zay, zaz, zba, aUn, zbb, zbc, zbd, zbe, zbf, zbg, zbh, zbi, zbj, zbk, zbl, zbm, zbn, flat, simple, zbo, zbp, zbq, zbr, zbs, zbt, zbu, zbv, zbw, zbx, zby, zbz, zca, zcb, zcc, zcd, zce, zcf, zcg, zch, zci, zcj, zck, zcl, zcm, zcn, zco, zcp, zcq, zcr, Nat.reduceEqDiff, Nat.reduceLT, Nat.reduceAdd, Nat.reduceSub, reduceIte, Kt_P, zcs, zct, zcu, zcv, zcw, zcx, zcy, zcz, zda, zdb, zdc, zdd, zde, zdf, zdg, zdh, zdi, zdj, zdk, reduceCtorEq, zdl, zdm, zdn, goInt, zdo, zdp, zdq, zdr, zds, zdt, zdu, zdv, zdw, zdx, zdy, zdz, zea, zeb, zec, zed, zdk, zee, zef, zeg, zeh, zei, zej, zek, zel, zem, zen, zeo, zep, zeq, zer, zes, zet, zeu, zev, zew, zex, zey, ya, yb, yc, yd, ye, yf, ts_int, ts_int64, ts_bool, ts_ints, ts_post, ts_posts, yg, yh, yi, yj, yk, yl, ym, ts_intsl, ts_int64s, ts_bools, ts_side, ts_sideb, ts_pints, ts_pbool, aPure, aLen, ywa, ywb, ywc, ywd, ywe, ywf, ywg, ywh, ywi, ywj, ywk, ywl, ywm, ywn, ywo, ts_string, ts_u8, ts_u64, ts_error, ts_bytes, ts_arr, ts_reader, ts_pbuilder, ts_builder, cv_64_8, cv_8_64, cv_64_i64, cv_i64_64, cv_64_int, cv_int_64, errV_0, e0, e1, e4, e5, e6, hlt, l1, herr, hi0]
      refine Way_of (fun hi => ?_) (fun hi => ?_)
      · rw [if_pos hi] at cE
        simp only [zaa, zab, zac, zad, zae, zaf, zag, zah, zai, zaj, zak, zal, zam, zan, zao, zap, zaq, zar, zas, zat, zau, zav, zaw, zax, zay, zaz, zba, aUn, zbb, zbc, zbd, zbe, zbf, zbg, zbh, zbi, zbj, zbk, zbl, zbm, zbn, flat, simple, zbo, zbp, zbq, zbr, zbs, zbt, zbu, zbv, zbw, zbx, zby, zbz, zca, zcb, zcc, zcd, zce, zcf, zcg, zch, zci, zcj, zck, zcl, zcm, zcn, zco, zcp, zcq, zcr, Nat.reduceEqDiff, Nat.reduceLT, Nat.reduceAdd, Nat.reduceSub, reduceIte, Kt_P, zcs, zct, zcu, zcv, zcw, zcx, zcy, zcz, zda, zdb, zdc, zdd, zde, zdf, zdg, zdh, zdi, zdj, zdk, reduceCtorEq, zdl, zdm, zdn, goInt, zdo, zdp, zdq, zdr, zds, zdt, zdu, zdv, zdw, zdx, zdy, zdz, zea, zeb, zec, zed, zdk, zee, zef, zeg, zeh, zei, zej, zek, zel, zem, zen, zeo, zep, zeq, zer, zes, zet, zeu, zev, zew, zex, zey, ya, yb, yc, yd, ye, yf, ts_int, ts_int64, ts_bool, ts_ints, ts_post, ts_posts, yg, yh, yi, yj, yk, yl, ym, ts_intsl, ts_int64s, ts_bools, ts_side, ts_sideb, ts_pints, ts_pbool, aPure, aLen, ywa, ywb, ywc, ywd, ywe, ywf, ywg, ywh, ywi, ywj, ywk, ywl, ywm, ywn, ywo, ts_string, ts_u8, ts_u64, ts_error, ts_bytes, ts_arr, ts_reader, ts_pbuilder, ts_builder, cv_64_8, cv_8_64, cv_64_i64, cv_i64_64, cv_64_int, cv_int_64, errV_0, e0]
        rw [CalF_cal (Kt_prim (by decide) _ _)]
        refine rint_ok G br s' 0 hRd' _ fun G2 s2 k2 x hn2 hF2 hR2 hc x64 => ?_
        rcases hc with ⟨hc, _⟩ | ⟨_, hx, hk2, hs2⟩
        · exact absurd rfl hc
        simp only [zaa, zab, zac, zad, zae, zaf, zag, zah, zai, zaj, zak, zal, zam, zan, zao, zap, zaq, zar, zas, zat, zau, zav, zaw, zax, zay, zaz, zba, aUn, zbb, zbc, zbd, zbe, zbf, zbg, zbh, zbi, zbj, zbk, zbl, zbm, zbn, flat, simple, zbo, zbp, zbq, zbr, zbs, zbt, zbu, zbv, zbw, zbx, zby, zbz, zca, zcb, zcc, zcd, zce, zcf, zcg, zch, zci, zcj, zck, zcl, zcm, zcn, zco, zcp, zcq, zcr, Nat.reduceEqDiff, Nat.reduceLT, Nat.reduceAdd, Nat.reduceSub, reduceIte, Kt_P, zcs, zct, zcu, zcv, zcw, zcx, zcy, zcz, zda, zdb, zdc, zdd, zde, zdf, zdg, zdh, zdi, zdj, zdk, reduceCtorEq, zdl, zdm, zdn, goInt, zdo, zdp, zdq, zdr, zds, zdt, zdu, zdv, zdw, zdx, zdy, zdz, zea, zeb, zec, zed, zdk, zee, zef, zeg, zeh, zei, zej, zek, zel, zem, zen, zeo, zep, zeq, zer, zes, zet, zeu, zev, zew, zex, zey, ya, yb, yc, yd, ye, yf, ts_int, ts_int64, ts_bool, ts_ints, ts_post, ts_posts, yg, yh, yi, yj, yk, yl, ym, ts_intsl, ts_int64s, ts_bools, ts_side, ts_sideb, ts_pints, ts_pbool, aPure, aLen, ywa, ywb, ywc, ywd, ywe, ywf, ywg, ywh, ywi, ywj, ywk, ywl, ywm, ywn, ywo, ts_string, ts_u8, ts_u64, ts_error, ts_bytes, ts_arr, ts_reader, ts_pbuilder, ts_builder, cv_64_8, cv_8_64, cv_64_i64, cv_i64_64, cv_64_int, cv_int_64, errV_0, e0, e1]
        have hd2 : inI64 (zagN x) := by unfold inI64 zagN; split <;> omega
        have hst : (k2 = 0 ∧ (rdU 0 0 (bl s')).2.2 = 0 ∧ (i = 0 ∨ (0 < (rdU 0 0 (bl s')).1 ∧ ((rdU 0 0 (bl s')).1 : Int) ≤ 9223372036854775807 - doc)) ∧ bl s2 = (bl s').drop (rdU 0 0 (bl s')).2.1 ∧ zagN x = zagN (rdU 0 0 (bl s')).1) ∨
            (k2 ≠ 0 ∧ (eF (bl s).length.succ 0 n 0 (bl s0) []).1 = k2) := by
          by_cases hk : k2 = 0
          · exact .inl ⟨hk, by rw [← hk2]; exact hk, .inl hi, hs2, by rw [hx]⟩
          · refine .inr ⟨hk, ?_⟩
            rw [← hk2, if_neg hk] at cE
            rw [← cE]
        refine OpW_alloc_of ts_ints tz_ints rfl fun b8 G3 hb8 hm3 hE3 hB3 => ?_
        replace hB3 : Box G3 b8 42 [.slice none 0 0] := hB3
        simp only [zaa, zab, zac, zad, zae, zaf, zag, zah, zai, zaj, zak, zal, zam, zan, zao, zap, zaq, zar, zas, zat, zau, zav, zaw, zax, zay, zaz, zba, aUn, zbb, zbc, zbd, zbe, zbf, zbg, zbh, zbi, zbj, zbk, zbl, zbm, zbn, flat, simple, zbo, zbp, zbq, zbr, zbs, zbt, zbu, zbv, zbw, zbx, zby, zbz, zca, zcb, zcc, zcd, zce, zcf, zcg, zch, zci, zcj, zck, zcl, zcm, zcn, zco, zcp, zcq, zcr, Nat.reduceEqDiff, Nat.reduceLT, Nat.reduceAdd, Nat.reduceSub, reduceIte, Kt_P, zcs, zct, zcu, zcv, zcw, zcx, zcy, zcz, zda, zdb, zdc, zdd, zde, zdf, zdg, zdh, zdi, zdj, zdk, reduceCtorEq, zdl, zdm, zdn, goInt, zdo, zdp, zdq, zdr, zds, zdt, zdu, zdv, zdw, zdx, zdy, zdz, zea, zeb, zec, zed, zdk, zee, zef, zeg, zeh, zei, zej, zek, zel, zem, zen, zeo, zep, zeq, zer, zes, zet, zeu, zev, zew, zex, zey, ya, yb, yc, yd, ye, yf, ts_int, ts_int64, ts_bool, ts_ints, ts_post, ts_posts, yg, yh, yi, yj, yk, yl, ym, ts_intsl, ts_int64s, ts_bools, ts_side, ts_sideb, ts_pints, ts_pbool, aPure, aLen, ywa, ywb, ywc, ywd, ywe, ywf, ywg, ywh, ywi, ywj, ywk, ywl, ywm, ywn, ywo, ts_string, ts_u8, ts_u64, ts_error, ts_bytes, ts_arr, ts_reader, ts_pbuilder, ts_builder, cv_64_8, cv_8_64, cv_64_i64, cv_i64_64, cv_64_int, cv_int_64, errV_0, e0]
        rw [CalF_cal (Kt_prim (by decide) _ _)]
        have hR3 := hE3.box hR2 fun h => h
        have hg2 := hF2.next
        have hs2l : k2 = 0 → (bl s2).length ≤ 2000000 ∧ (bl s2).length < (bl s').length := fun hk => by
          rcases hst with ⟨_, a1, _, a2, _⟩ | ⟨a1, _⟩
          · have := (rdU_one a1).2.1
            rw [a2]; omega
          · exact absurd hk a1
        have hbr3 := hR2.1
        have hs2b : (bl s2).length ≤ 2000000 := by rw [hs2, List.length_drop]; omega
        have hplaces : ∀ Q', (∀ A' s4 k4 lv L, Fr (fun j => j = br ∨ j = b8) G3 A' → Rdr A' br s4 k4 → Box A' b8 42 [lv] → Acc A' 3 1 lv L.length (ints L) → (∀ b, blockOf lv b → G3.next ≤ b) →
              ((k2 ≠ 0 ∧ k4 = k2) ∨ (k2 = 0 ∧ k4 = (plOut (bl s2)).1 ∧ (k4 = 0 → bl s4 = (plOut (bl s2)).2.1 ∧ L = (plOut (bl s2)).2.2 ∧ (∀ x ∈ L, inI64 x) ∧ L.length + (bl s4).length ≤ 2000000))) → Q' (.tuple #[]) A') →
            Cal Kt 61 #[.pointer (some ⟨br, 0, none⟩), .func (.func 62) #[] #[.pointer (some ⟨b8, 0, none⟩)]] G3 Q' :=
          fun Q' hq' => places_ok G3 br b8 s2 k2 hR3 hs2b hB3 (by omega) Q' hq'
        refine hplaces _ fun G4 s4 k4 lv L hF4 hR4 hB4 hA4 hblk4 hout => ?_
        have l4 := hR4.load (P := Tryd.prog) (o := 1) (t := 26) Tryd.underlying26 rfl rfl
        have l8 := hB4.load (P := Tryd.prog) (o := 0) (t := 42) Tryd.underlying42 rfl rfl
        have hg4 := hF4.next
        have hFG4 : Fr (fun j => j = br) G G4 := (hF2.trans hE3 fun b _ h => h.elim).trans hF4 fun b hb h => h.resolve_right (by omega)
        have hK4 : Keep base W G G4 := hFG4.keep fun b hb h => by subst h; exact ⟨hbase, fun hw => (hWW _ hw).2.2.1 rfl⟩
        have hF14 : Fr (fun b => W1 b ∨ b = br) A1 G4 := hF.trans hFG4 fun b _ h => .inr h
        have hI4 := hR.stab _ _ _ _ hIi hK4
        have hW4 : ∀ b, W b → b < G4.next ∧ (W1 b ∨ A1.next ≤ b) := fun b hb => ⟨by have := (hWo b hb).1; omega, (hWo b hb).2⟩
        simp only [zaa, zab, zac, zad, zae, zaf, zag, zah, zai, zaj, zak, zal, zam, zan, zao, zap, zaq, zar, zas, zat, zau, zav, zaw, zax, zay, zaz, zba, aUn, zbb, zbc, zbd, zbe, zbf, zbg, zbh, zbi, zbj, zbk, zbl, zbm, zbn, flat, simple, zbo, zbp, zbq, zbr, zbs, zbt, zbu, zbv, zbw, zbx, zby, zbz, zca, zcb, zcc, zcd, zce, zcf, zcg, zch, zci, zcj, zck, zcl, zcm, zcn, zco, zcp, zcq, zcr, Nat.reduceEqDiff, Nat.reduceLT, Nat.reduceAdd, Nat.reduceSub, reduceIte, Kt_P, zcs, zct, zcu, zcv, zcw, zcx, zcy, zcz, zda, zdb, zdc, zdd, zde, zdf, zdg, zdh, zdi, zdj, zdk, reduceCtorEq, zdl, zdm, zdn, goInt, zdo, zdp, zdq, zdr, zds, zdt, zdu, zdv, zdw, zdx, zdy, zdz, zea, zeb, zec, zed, zdk, zee, zef, zeg, zeh, zei, zej, zek, zel, zem, zen, zeo, zep, zeq, zer, zes, zet, zeu, zev, zew, zex, zey, ya, yb, yc, yd, ye, yf, ts_int, ts_int64, ts_bool, ts_ints, ts_post, ts_posts, yg, yh, yi, yj, yk, yl, ym, ts_intsl, ts_int64s, ts_bools, ts_side, ts_sideb, ts_pints, ts_pbool, aPure, aLen, ywa, ywb, ywc, ywd, ywe, ywf, ywg, ywh, ywi, ywj, ywk, ywl, ywm, ywn, ywo, ts_string, ts_u8, ts_u64, ts_error, ts_bytes, ts_arr, ts_reader, ts_pbuilder, ts_builder, cv_64_8, cv_8_64, cv_64_i64, cv_i64_64, cv_64_int, cv_int_64, errV_0, e0, e1, l4, l8, err_neq]
        by_cases hk4 : k4 = 0
        · have hk4f : (k4 ≠ 0) = False := eq_false (fun h => h hk4)
          have hst' := hst.resolve_right fun hc => by
            rcases hout with ⟨_, o2⟩ | ⟨o1, _⟩
            · exact hc.1 (o2.symm.trans hk4)
            · exact hc.1 o1
          obtain ⟨a0, a1, a2, a3, a4⟩ := hst'
          have hout' := hout.resolve_left fun hc => hc.1 a0
          obtain ⟨_, o2, o3⟩ := hout'
          obtain ⟨o4, o5, o6, o7⟩ := o3 hk4
          rw [if_pos a1, if_pos a2, ← a3, if_pos (o2.symm.trans hk4), ← o4, ← o5, ← a4] at cE
          have hLI : Ints G4 lv L := ⟨hA4.elems, o6, by omega⟩
          have hitem := hItem i ((zagN x)) L (by omega) fun Lf hLf => by
            rw [hEdef ck0] at hLf
            by_cases hE0 : (eF (bl s).length.succ 0 n 0 (bl s0) []).1 = 0
            · rw [if_pos hE0, Prod.mk.injEq] at hLf
              rw [← cE] at hLf hE0
              obtain ⟨l, m1, _⟩ := eF_canon _ _ _ _ _ _ _ _ (by unfold inI64 at hd2; omega) (trip1 hE0)
              rw [← hLf.2, m1]
              refine ⟨by simp; omega, ?_⟩
              rw [List.getElem_append_left (by simp; omega), List.getElem_append_right (by omega)]
              simp [ca]
            · rw [if_neg hE0, Prod.mk.injEq] at hLf
              exact absurd hLf.1 hE0
          obtain ⟨ol, hol, _⟩ := hLI.opened
          subst hol
          simp only [zaa, zab, zac, zad, zae, zaf, zag, zah, zai, zaj, zak, zal, zam, zan, zao, zap, zaq, zar, zas, zat, zau, zav, zaw, zax, zay, zaz, zba, aUn, zbb, zbc, zbd, zbe, zbf, zbg, zbh, zbi, zbj, zbk, zbl, zbm, zbn, flat, simple, zbo, zbp, zbq, zbr, zbs, zbt, zbu, zbv, zbw, zbx, zby, zbz, zca, zcb, zcc, zcd, zce, zcf, zcg, zch, zci, zcj, zck, zcl, zcm, zcn, zco, zcp, zcq, zcr, Nat.reduceEqDiff, Nat.reduceLT, Nat.reduceAdd, Nat.reduceSub, reduceIte, Kt_P, zcs, zct, zcu, zcv, zcw, zcx, zcy, zcz, zda, zdb, zdc, zdd, zde, zdf, zdg, zdh, zdi, zdj, zdk, reduceCtorEq, zdl, zdm, zdn, goInt, zdo, zdp, zdq, zdr, zds, zdt, zdu, zdv, zdw, zdx, zdy, zdz, zea, zeb, zec, zed, zdk, zee, zef, zeg, zeh, zei, zej, zek, zel, zem, zen, zeo, zep, zeq, zer, zes, zet, zeu, zev, zew, zex, zey, ya, yb, yc, yd, ye, yf, ts_int, ts_int64, ts_bool, ts_ints, ts_post, ts_posts, yg, yh, yi, yj, yk, yl, ym, ts_intsl, ts_int64s, ts_bools, ts_side, ts_sideb, ts_pints, ts_pbool, aPure, aLen, ywa, ywb, ywc, ywd, ywe, ywf, ywg, ywh, ywi, ywj, ywk, ywl, ywm, ywn, ywo, ts_string, ts_u8, ts_u64, ts_error, ts_bytes, ts_arr, ts_reader, ts_pbuilder, ts_builder, cv_64_8, cv_8_64, cv_64_i64, cv_i64_64, cv_64_int, cv_int_64, errV_0, hk4f, not_false_eq_true, e1, l8]
          refine (hR.round i W G4 _ hitem.1 hI4 (by omega) (fun b hb => ⟨(hW4 b hb).1, (hWW b hb).2.2.2⟩) (hitem.2 _ G4 hLI hd2)).mono ?_
          rintro v G5 ⟨W', hF5, hW5, hv⟩
          have hg5 := hF5.next
          have hF15 : Fr (fun b => W1 b ∨ b = br) A1 G5 := hF14.trans hF5 fun b hb h => .inl ((hW4 b h).2.resolve_right (by omega))
          have hW5' : ∀ b, W' b → b < G5.next ∧ (W1 b ∨ A1.next ≤ b) := fun b hb => ⟨(hW5 b hb).1, (hW5 b hb).2.elim (fun h => (hW4 b h).2) fun h => .inr (by omega)⟩
          rcases hv with ⟨rfl, hI5⟩ | ⟨rfl, hS5⟩
          · simp only [zaa, zab, zac, zad, zae, zaf, zag, zah, zai, zaj, zak, zal, zam, zan, zao, zap, zaq, zar, zas, zat, zau, zav, zaw, zax, zay, zaz, zba, aUn, zbb, zbc, zbd, zbe, zbf, zbg, zbh, zbi, zbj, zbk, zbl, zbm, zbn, flat, simple, zbo, zbp, zbq, zbr, zbs, zbt, zbu, zbv, zbw, zbx, zby, zbz, zca, zcb, zcc, zcd, zce, zcf, zcg, zch, zci, zcj, zck, zcl, zcm, zcn, zco, zcp, zcq, zcr, Nat.reduceEqDiff, Nat.reduceLT, Nat.reduceAdd, Nat.reduceSub, reduceIte, Kt_P, zcs, zct, zcu, zcv, zcw, zcx, zcy, zcz, zda, zdb, zdc, zdd, zde, zdf, zdg, zdh, zdi, zdj, zdk, reduceCtorEq, zdl, zdm, zdn, goInt, zdo, zdp, zdq, zdr, zds, zdt, zdu, zdv, zdw, zdx, zdy, zdz, zea, zeb, zec, zed, zdk, zee, zef, zeg, zeh, zei, zej, zek, zel, zem, zen, zeo, zep, zeq, zer, zes, zet, zeu, zev, zew, zex, zey, ya, yb, yc, yd, ye, yf, ts_int, ts_int64, ts_bool, ts_ints, ts_post, ts_posts, yg, yh, yi, yj, yk, yl, ym, ts_intsl, ts_int64s, ts_bools, ts_side, ts_sideb, ts_pints, ts_pbool, aPure, aLen, ywa, ywb, ywc, ywd, ywe, ywf, ywg, ywh, ywi, ywj, ywk, ywl, ywm, ywn, ywo, ts_string, ts_u8, ts_u64, ts_error, ts_bytes, ts_arr, ts_reader, ts_pbuilder, ts_builder, cv_64_8, cv_8_64, cv_64_i64, cv_i64_64, cv_64_int, cv_int_64, errV_0, e6, hisucc]
            refine ⟨n - (i + 1), by omega, i + 1, (zagN x), s4, k4, W', acc ++ [((zagN x), L)], by simp [put_at, e0, e1, e4], rfl, by omega, by omega, hF5.box hR4 (fun h => (hWW br h).2.2.1 rfl), hI5, hF15,
              fun b hb => ⟨(hW5' b hb).1, (hW5' b hb).2, ?_, ?_⟩, .inr ⟨hk4, ck0, hd2, by simp; omega, by omega, f0, ?_, ?_⟩⟩
            · rcases (hW5 b hb).2 with h | h
              · exact (hWW b h).2.2.1
              · omega
            · rcases (hW5 b hb).2 with h | h
              · exact (hWW b h).2.2.2
              · intro hc; have := hRd b hc; omega
            · have := (hs2l a0).2
              rw [o4]
              have hpl := plOut_le (bl s2)
              omega
            · exact cE
          · simp only [zaa, zab, zac, zad, zae, zaf, zag, zah, zai, zaj, zak, zal, zam, zan, zao, zap, zaq, zar, zas, zat, zau, zav, zaw, zax, zay, zaz, zba, aUn, zbb, zbc, zbd, zbe, zbf, zbg, zbh, zbi, zbj, zbk, zbl, zbm, zbn, flat, simple, zbo, zbp, zbq, zbr, zbs, zbt, zbu, zbv, zbw, zbx, zby, zbz, zca, zcb, zcc, zcd, zce, zcf, zcg, zch, zci, zcj, zck, zcl, zcm, zcn, zco, zcp, zcq, zcr, Nat.reduceEqDiff, Nat.reduceLT, Nat.reduceAdd, Nat.reduceSub, reduceIte, Kt_P, zcs, zct, zcu, zcv, zcw, zcx, zcy, zcz, zda, zdb, zdc, zdd, zde, zdf, zdg, zdh, zdi, zdj, zdk, reduceCtorEq, zdl, zdm, zdn, goInt, zdo, zdp, zdq, zdr, zds, zdt, zdu, zdv, zdw, zdx, zdy, zdz, zea, zeb, zec, zed, zdk, zee, zef, zeg, zeh, zei, zej, zek, zel, zem, zen, zeo, zep, zeq, zer, zes, zet, zeu, zev, zew, zex, zey, ya, yb, yc, yd, ye, yf, ts_int, ts_int64, ts_bool, ts_ints, ts_post, ts_posts, yg, yh, yi, yj, yk, yl, ym, ts_intsl, ts_int64s, ts_bools, ts_side, ts_sideb, ts_pints, ts_pbool, aPure, aLen, ywa, ywb, ywc, ywd, ywe, ywf, ywg, ywh, ywi, ywj, ywk, ywl, ywm, ywn, ywo, ts_string, ts_u8, ts_u64, ts_error, ts_bytes, ts_arr, ts_reader, ts_pbuilder, ts_builder, cv_64_8, cv_8_64, cv_64_i64, cv_i64_64, cv_64_int, cv_int_64, errV_0]
            exact hQ G5 W' s4 k4 hF15 hW5' (.inl hS5)
        · have hk4t : (k4 ≠ 0) = True := eq_true hk4
          simp only [zaa, zab, zac, zad, zae, zaf, zag, zah, zai, zaj, zak, zal, zam, zan, zao, zap, zaq, zar, zas, zat, zau, zav, zaw, zax, zay, zaz, zba, aUn, zbb, zbc, zbd, zbe, zbf, zbg, zbh, zbi, zbj, zbk, zbl, zbm, zbn, flat, simple, zbo, zbp, zbq, zbr, zbs, zbt, zbu, zbv, zbw, zbx, zby, zbz, zca, zcb, zcc, zcd, zce, zcf, zcg, zch, zci, zcj, zck, zcl, zcm, zcn, zco, zcp, zcq, zcr, Nat.reduceEqDiff, Nat.reduceLT, Nat.reduceAdd, Nat.reduceSub, reduceIte, Kt_P, zcs, zct, zcu, zcv, zcw, zcx, zcy, zcz, zda, zdb, zdc, zdd, zde, zdf, zdg, zdh, zdi, zdj, zdk, reduceCtorEq, zdl, zdm, zdn, goInt, zdo, zdp, zdq, zdr, zds, zdt, zdu, zdv, zdw, zdx, zdy, zdz, zea, zeb, zec, zed, zdk, zee, zef, zeg, zeh, zei, zej, zek, zel, zem, zen, zeo, zep, zeq, zer, zes, zet, zeu, zev, zew, zex, zey, ya, yb, yc, yd, ye, yf, ts_int, ts_int64, ts_bool, ts_ints, ts_post, ts_posts, yg, yh, yi, yj, yk, yl, ym, ts_intsl, ts_int64s, ts_bools, ts_side, ts_sideb, ts_pints, ts_pbool, aPure, aLen, ywa, ywb, ywc, ywd, ywe, ywf, ywg, ywh, ywi, ywj, ywk, ywl, ywm, ywn, ywo, ts_string, ts_u8, ts_u64, ts_error, ts_bytes, ts_arr, ts_reader, ts_pbuilder, ts_builder, cv_64_8, cv_8_64, cv_64_i64, cv_i64_64, cv_64_int, cv_int_64, errV_0, hk4t, not_true_eq_false]
          have hE1 : (eF (bl s).length.succ 0 n 0 (bl s0) []).1 = k4 := by
            rcases hst with ⟨a0, a1, a2, a3, a4⟩ | ⟨a0, a1⟩
            · rcases hout with ⟨o1, _⟩ | ⟨_, o2, _⟩
              · exact absurd a0 o1
              · rw [if_pos a1, if_pos a2, ← a3, if_neg (by rw [← o2]; exact hk4)] at cE
                rw [← cE, o2]
            · rcases hout with ⟨_, o2⟩ | ⟨o1, _⟩
              · rw [a1, o2]
              · exact absurd o1 a0
          refine hQ G4 W s4 k4 hF14 hW4 (.inr ⟨?_, hR4, i, hI4, fun h => absurd h hk4⟩)
          rw [hEdef ck0, if_neg (by rw [hE1]; exact hk4), hE1]
      · rw [if_neg hi] at cE
        simp only [zaa, zab, zac, zad, zae, zaf, zag, zah, zai, zaj, zak, zal, zam, zan, zao, zap, zaq, zar, zas, zat, zau, zav, zaw, zax, zay, zaz, zba, aUn, zbb, zbc, zbd, zbe, zbf, zbg, zbh, zbi, zbj, zbk, zbl, zbm, zbn, flat, simple, zbo, zbp, zbq, zbr, zbs, zbt, zbu, zbv, zbw, zbx, zby, zbz, zca, zcb, zcc, zcd, zce, zcf, zcg, zch, zci, zcj, zck, zcl, zcm, zcn, zco, zcp, zcq, zcr, Nat.reduceEqDiff, Nat.reduceLT, Nat.reduceAdd, Nat.reduceSub, reduceIte, Kt_P, zcs, zct, zcu, zcv, zcw, zcx, zcy, zcz, zda, zdb, zdc, zdd, zde, zdf, zdg, zdh, zdi, zdj, zdk, reduceCtorEq, zdl, zdm, zdn, goInt, zdo, zdp, zdq, zdr, zds, zdt, zdu, zdv, zdw, zdx, zdy, zdz, zea, zeb, zec, zed, zdk, zee, zef, zeg, zeh, zei, zej, zek, zel, zem, zen, zeo, zep, zeq, zer, zes, zet, zeu, zev, zew, zex, zey, ya, yb, yc, yd, ye, yf, ts_int, ts_int64, ts_bool, ts_ints, ts_post, ts_posts, yg, yh, yi, yj, yk, yl, ym, ts_intsl, ts_int64s, ts_bools, ts_side, ts_sideb, ts_pints, ts_pbool, aPure, aLen, ywa, ywb, ywc, ywd, ywe, ywf, ywg, ywh, ywi, ywj, ywk, ywl, ywm, ywn, ywo, ts_string, ts_u8, ts_u64, ts_error, ts_bytes, ts_arr, ts_reader, ts_pbuilder, ts_builder, cv_64_8, cv_8_64, cv_64_i64, cv_i64_64, cv_64_int, cv_int_64, errV_0, e0]
        rw [CalF_cal (Kt_prim (by decide) _ _)]
        refine runi_ok G br s' 0 hRd' _ fun H s2 k1 x hnH hFH hRH hc x64 => ?_
        rcases hc with ⟨hc, _⟩ | ⟨_, hx, hk1, hs2⟩
        · exact absurd rfl hc
        have cd' := cd
        unfold inI64 at cd'
        have hsubw : IntKind.u64.wrap (9223372036854775807 - IntKind.u64.wrap doc) = 9223372036854775807 - doc := by rw [wrap_u64', wrap_u64']; omega
        have hx0 : ((0 : Int) < (x : Int)) = (0 < x) := propext (by omega)
        simp only [zaa, zab, zac, zad, zae, zaf, zag, zah, zai, zaj, zak, zal, zam, zan, zao, zap, zaq, zar, zas, zat, zau, zav, zaw, zax, zay, zaz, zba, aUn, zbb, zbc, zbd, zbe, zbf, zbg, zbh, zbi, zbj, zbk, zbl, zbm, zbn, flat, simple, zbo, zbp, zbq, zbr, zbs, zbt, zbu, zbv, zbw, zbx, zby, zbz, zca, zcb, zcc, zcd, zce, zcf, zcg, zch, zci, zcj, zck, zcl, zcm, zcn, zco, zcp, zcq, zcr, Nat.reduceEqDiff, Nat.reduceLT, Nat.reduceAdd, Nat.reduceSub, reduceIte, Kt_P, zcs, zct, zcu, zcv, zcw, zcx, zcy, zcz, zda, zdb, zdc, zdd, zde, zdf, zdg, zdh, zdi, zdj, zdk, reduceCtorEq, zdl, zdm, zdn, goInt, zdo, zdp, zdq, zdr, zds, zdt, zdu, zdv, zdw, zdx, zdy, zdz, zea, zeb, zec, zed, zdk, zee, zef, zeg, zeh, zei, zej, zek, zel, zem, zen, zeo, zep, zeq, zer, zes, zet, zeu, zev, zew, zex, zey, ya, yb, yc, yd, ye, yf, ts_int, ts_int64, ts_bool, ts_ints, ts_post, ts_posts, yg, yh, yi, yj, yk, yl, ym, ts_intsl, ts_int64s, ts_bools, ts_side, ts_sideb, ts_pints, ts_pbool, aPure, aLen, ywa, ywb, ywc, ywd, ywe, ywf, ywg, ywh, ywi, ywj, ywk, ywl, ywm, ywn, ywo, ts_string, ts_u8, ts_u64, ts_error, ts_bytes, ts_arr, ts_reader, ts_pbuilder, ts_builder, cv_64_8, cv_8_64, cv_64_i64, cv_i64_64, cv_64_int, cv_int_64, errV_0, e0, e5, hx0, hsubw]
        have hcut : ∀ so : Bool, (so = true ↔ (0 < x ∧ (x : Int) ≤ 9223372036854775807 - doc)) → CalF Kt 60 #[.pointer (some ⟨br, 0, none⟩), .bool so] H (fun v G2 => ∃ k2, G2.next = H.next ∧ Fr (fun j => j = br) H G2 ∧ Rdr G2 br s2 k2 ∧ v = .tuple #[] ∧
            ((k2 = 0 ∧ (rdU 0 0 (bl s')).2.2 = 0 ∧ (i = 0 ∨ (0 < (rdU 0 0 (bl s')).1 ∧ ((rdU 0 0 (bl s')).1 : Int) ≤ 9223372036854775807 - doc)) ∧ bl s2 = (bl s').drop (rdU 0 0 (bl s')).2.1 ∧ IntKind.i64.wrap (doc + IntKind.i64.wrap (x : Int)) = doc + (rdU 0 0 (bl s')).1) ∨
            (k2 ≠ 0 ∧ (eF (bl s).length.succ 0 n 0 (bl s0) []).1 = k2))) := by
          intro so hso
          rw [CalF_cal (Kt_prim (by decide) _ _)]
          refine form_ok H br s2 k1 so hRH _ fun G2 k2 hn2 hF2 hR2 hk2 => ⟨k2, hn2, hF2, hR2, rfl, ?_⟩
          by_cases hk : k1 = 0
          · by_cases hcond : 0 < x ∧ (x : Int) ≤ 9223372036854775807 - doc
            · have hk20 : k2 = 0 := by rw [hk2, if_neg (fun h => by rw [hso.2 hcond] at h; exact absurd h.2 (by simp)), hk]
              exact .inl ⟨hk20, by rw [← hk1]; exact hk, .inr (by rw [← hx]; exact hcond), hs2, by rw [← hx]; exact add_doc cd hcond.2⟩
            · have hsf : so = false := by
                cases so with
                | true => exact absurd (hso.1 rfl) hcond
                | false => rfl
              have hk24 : k2 = 4 := by rw [hk2, if_pos ⟨hk, hsf⟩]
              refine .inr ⟨by omega, ?_⟩
              rw [← hk1, if_pos hk, ← hx, if_neg (fun h => h.elim hi hcond)] at cE
              rw [← cE, hk24]
          · have hk2n : k2 = k1 := by rw [hk2, if_neg (fun h => hk h.1)]
            refine .inr ⟨by omega, ?_⟩
            rw [← hk1, if_neg hk] at cE
            rw [← cE, hk2n]
        by_cases p1 : 0 < x
        · have q1 : (0 < x) = True := eq_true p1
          by_cases p3 : (x : Int) ≤ 9223372036854775807 - doc
          · have q3 : ((x : Int) ≤ 9223372036854775807 - doc) = True := eq_true p3
            simp only [zaa, zab, zac, zad, zae, zaf, zag, zah, zai, zaj, zak, zal, zam, zan, zao, zap, zaq, zar, zas, zat, zau, zav, zaw, zax, zay, zaz, zba, aUn, zbb, zbc, zbd, zbe, zbf, zbg, zbh, zbi, zbj, zbk, zbl, zbm, zbn, flat, simple, zbo, zbp, zbq, zbr, zbs, zbt, zbu, zbv, zbw, zbx, zby, zbz, zca, zcb, zcc, zcd, zce, zcf, zcg, zch, zci, zcj, zck, zcl, zcm, zcn, zco, zcp, zcq, zcr, Nat.reduceEqDiff, Nat.reduceLT, Nat.reduceAdd, Nat.reduceSub, reduceIte, Kt_P, zcs, zct, zcu, zcv, zcw, zcx, zcy, zcz, zda, zdb, zdc, zdd, zde, zdf, zdg, zdh, zdi, zdj, zdk, reduceCtorEq, zdl, zdm, zdn, goInt, zdo, zdp, zdq, zdr, zds, zdt, zdu, zdv, zdw, zdx, zdy, zdz, zea, zeb, zec, zed, zdk, zee, zef, zeg, zeh, zei, zej, zek, zel, zem, zen, zeo, zep, zeq, zer, zes, zet, zeu, zev, zew, zex, zey, ya, yb, yc, yd, ye, yf, ts_int, ts_int64, ts_bool, ts_ints, ts_post, ts_posts, yg, yh, yi, yj, yk, yl, ym, ts_intsl, ts_int64s, ts_bools, ts_side, ts_sideb, ts_pints, ts_pbool, aPure, aLen, ywa, ywb, ywc, ywd, ywe, ywf, ywg, ywh, ywi, ywj, ywk, ywl, ywm, ywn, ywo, ts_string, ts_u8, ts_u64, ts_error, ts_bytes, ts_arr, ts_reader, ts_pbuilder, ts_builder, cv_64_8, cv_8_64, cv_64_i64, cv_i64_64, cv_64_int, cv_int_64, errV_0, e0, e5, q1, q3, hsubw]
            refine (hcut true ⟨fun _ => ⟨p1, p3⟩, fun _ => rfl⟩).mono ?_
            rintro v G2 ⟨k2, hn2, hF2', hR2, rfl, hst⟩
            obtain ⟨d2, hd2e⟩ : ∃ d2, IntKind.i64.wrap (doc + IntKind.i64.wrap (x : Int)) = d2 := ⟨_, rfl⟩
            have hd2 : inI64 d2 := by rw [← hd2e]; exact i64_in _
            have hF2 := hFH.trans hF2' fun _ _ h => h
            rw [hd2e] at hst
            simp only [zaa, zab, zac, zad, zae, zaf, zag, zah, zai, zaj, zak, zal, zam, zan, zao, zap, zaq, zar, zas, zat, zau, zav, zaw, zax, zay, zaz, zba, aUn, zbb, zbc, zbd, zbe, zbf, zbg, zbh, zbi, zbj, zbk, zbl, zbm, zbn, flat, simple, zbo, zbp, zbq, zbr, zbs, zbt, zbu, zbv, zbw, zbx, zby, zbz, zca, zcb, zcc, zcd, zce, zcf, zcg, zch, zci, zcj, zck, zcl, zcm, zcn, zco, zcp, zcq, zcr, Nat.reduceEqDiff, Nat.reduceLT, Nat.reduceAdd, Nat.reduceSub, reduceIte, Kt_P, zcs, zct, zcu, zcv, zcw, zcx, zcy, zcz, zda, zdb, zdc, zdd, zde, zdf, zdg, zdh, zdi, zdj, zdk, reduceCtorEq, zdl, zdm, zdn, goInt, zdo, zdp, zdq, zdr, zds, zdt, zdu, zdv, zdw, zdx, zdy, zdz, zea, zeb, zec, zed, zdk, zee, zef, zeg, zeh, zei, zej, zek, zel, zem, zen, zeo, zep, zeq, zer, zes, zet, zeu, zev, zew, zex, zey, ya, yb, yc, yd, ye, yf, ts_int, ts_int64, ts_bool, ts_ints, ts_post, ts_posts, yg, yh, yi, yj, yk, yl, ym, ts_intsl, ts_int64s, ts_bools, ts_side, ts_sideb, ts_pints, ts_pbool, aPure, aLen, ywa, ywb, ywc, ywd, ywe, ywf, ywg, ywh, ywi, ywj, ywk, ywl, ywm, ywn, ywo, ts_string, ts_u8, ts_u64, ts_error, ts_bytes, ts_arr, ts_reader, ts_pbuilder, ts_builder, cv_64_8, cv_8_64, cv_64_i64, cv_i64_64, cv_64_int, cv_int_64, errV_0, e0, e1, e5, hd2e]
            refine OpW_alloc_of ts_ints tz_ints rfl fun b8 G3 hb8 hm3 hE3 hB3 => ?_
            replace hB3 : Box G3 b8 42 [.slice none 0 0] := hB3
            simp only [zaa, zab, zac, zad, zae, zaf, zag, zah, zai, zaj, zak, zal, zam, zan, zao, zap, zaq, zar, zas, zat, zau, zav, zaw, zax, zay, zaz, zba, aUn, zbb, zbc, zbd, zbe, zbf, zbg, zbh, zbi, zbj, zbk, zbl, zbm, zbn, flat, simple, zbo, zbp, zbq, zbr, zbs, zbt, zbu, zbv, zbw, zbx, zby, zbz, zca, zcb, zcc, zcd, zce, zcf, zcg, zch, zci, zcj, zck, zcl, zcm, zcn, zco, zcp, zcq, zcr, Nat.reduceEqDiff, Nat.reduceLT, Nat.reduceAdd, Nat.reduceSub, reduceIte, Kt_P, zcs, zct, zcu, zcv, zcw, zcx, zcy, zcz, zda, zdb, zdc, zdd, zde, zdf, zdg, zdh, zdi, zdj, zdk, reduceCtorEq, zdl, zdm, zdn, goInt, zdo, zdp, zdq, zdr, zds, zdt, zdu, zdv, zdw, zdx, zdy, zdz, zea, zeb, zec, zed, zdk, zee, zef, zeg, zeh, zei, zej, zek, zel, zem, zen, zeo, zep, zeq, zer, zes, zet, zeu, zev, zew, zex, zey, ya, yb, yc, yd, ye, yf, ts_int, ts_int64, ts_bool, ts_ints, ts_post, ts_posts, yg, yh, yi, yj, yk, yl, ym, ts_intsl, ts_int64s, ts_bools, ts_side, ts_sideb, ts_pints, ts_pbool, aPure, aLen, ywa, ywb, ywc, ywd, ywe, ywf, ywg, ywh, ywi, ywj, ywk, ywl, ywm, ywn, ywo, ts_string, ts_u8, ts_u64, ts_error, ts_bytes, ts_arr, ts_reader, ts_pbuilder, ts_builder, cv_64_8, cv_8_64, cv_64_i64, cv_i64_64, cv_64_int, cv_int_64, errV_0, e0]
            rw [CalF_cal (Kt_prim (by decide) _ _)]
            have hR3 := hE3.box hR2 fun h => h
            have hg2 := hF2.next
            have hs2l : k2 = 0 → (bl s2).length ≤ 2000000 ∧ (bl s2).length < (bl s').length := fun hk => by
              rcases hst with ⟨_, a1, _, a2, _⟩ | ⟨a1, _⟩
              · have := (rdU_one a1).2.1
                rw [a2]; omega
              · exact absurd hk a1
            have hbr3 := hR2.1
            have hs2b : (bl s2).length ≤ 2000000 := by rw [hs2, List.length_drop]; omega
            have hplaces : ∀ Q', (∀ A' s4 k4 lv L, Fr (fun j => j = br ∨ j = b8) G3 A' → Rdr A' br s4 k4 → Box A' b8 42 [lv] → Acc A' 3 1 lv L.length (ints L) → (∀ b, blockOf lv b → G3.next ≤ b) →
                  ((k2 ≠ 0 ∧ k4 = k2) ∨ (k2 = 0 ∧ k4 = (plOut (bl s2)).1 ∧ (k4 = 0 → bl s4 = (plOut (bl s2)).2.1 ∧ L = (plOut (bl s2)).2.2 ∧ (∀ x ∈ L, inI64 x) ∧ L.length + (bl s4).length ≤ 2000000))) → Q' (.tuple #[]) A') →
                Cal Kt 61 #[.pointer (some ⟨br, 0, none⟩), .func (.func 62) #[] #[.pointer (some ⟨b8, 0, none⟩)]] G3 Q' :=
              fun Q' hq' => places_ok G3 br b8 s2 k2 hR3 hs2b hB3 (by omega) Q' hq'
            refine hplaces _ fun G4 s4 k4 lv L hF4 hR4 hB4 hA4 hblk4 hout => ?_
            have l4 := hR4.load (P := Tryd.prog) (o := 1) (t := 26) Tryd.underlying26 rfl rfl
            have l8 := hB4.load (P := Tryd.prog) (o := 0) (t := 42) Tryd.underlying42 rfl rfl
            have hg4 := hF4.next
            have hFG4 : Fr (fun j => j = br) G G4 := (hF2.trans hE3 fun b _ h => h.elim).trans hF4 fun b hb h => h.resolve_right (by omega)
            have hK4 : Keep base W G G4 := hFG4.keep fun b hb h => by subst h; exact ⟨hbase, fun hw => (hWW _ hw).2.2.1 rfl⟩
            have hF14 : Fr (fun b => W1 b ∨ b = br) A1 G4 := hF.trans hFG4 fun b _ h => .inr h
            have hI4 := hR.stab _ _ _ _ hIi hK4
            have hW4 : ∀ b, W b → b < G4.next ∧ (W1 b ∨ A1.next ≤ b) := fun b hb => ⟨by have := (hWo b hb).1; omega, (hWo b hb).2⟩
            simp only [zaa, zab, zac, zad, zae, zaf, zag, zah, zai, zaj, zak, zal, zam, zan, zao, zap, zaq, zar, zas, zat, zau, zav, zaw, zax, zay, zaz, zba, aUn, zbb, zbc, zbd, zbe, zbf, zbg, zbh, zbi, zbj, zbk, zbl, zbm, zbn, flat, simple, zbo, zbp, zbq, zbr, zbs, zbt, zbu, zbv, zbw, zbx, zby, zbz, zca, zcb, zcc, zcd, zce, zcf, zcg, zch, zci, zcj, zck, zcl, zcm, zcn, zco, zcp, zcq, zcr, Nat.reduceEqDiff, Nat.reduceLT, Nat.reduceAdd, Nat.reduceSub, reduceIte, Kt_P, zcs, zct, zcu, zcv, zcw, zcx, zcy, zcz, zda, zdb, zdc, zdd, zde, zdf, zdg, zdh, zdi, zdj, zdk, reduceCtorEq, zdl, zdm, zdn, goInt, zdo, zdp, zdq, zdr, zds, zdt, zdu, zdv, zdw, zdx, zdy, zdz, zea, zeb, zec, zed, zdk, zee, zef, zeg, zeh, zei, zej, zek, zel, zem, zen, zeo, zep, zeq, zer, zes, zet, zeu, zev, zew, zex, zey, ya, yb, yc, yd, ye, yf, ts_int, ts_int64, ts_bool, ts_ints, ts_post, ts_posts, yg, yh, yi, yj, yk, yl, ym, ts_intsl, ts_int64s, ts_bools, ts_side, ts_sideb, ts_pints, ts_pbool, aPure, aLen, ywa, ywb, ywc, ywd, ywe, ywf, ywg, ywh, ywi, ywj, ywk, ywl, ywm, ywn, ywo, ts_string, ts_u8, ts_u64, ts_error, ts_bytes, ts_arr, ts_reader, ts_pbuilder, ts_builder, cv_64_8, cv_8_64, cv_64_i64, cv_i64_64, cv_64_int, cv_int_64, errV_0, e0, e1, l4, l8, err_neq]
            by_cases hk4 : k4 = 0
            · have hk4f : (k4 ≠ 0) = False := eq_false (fun h => h hk4)
              have hst' := hst.resolve_right fun hc => by
                rcases hout with ⟨_, o2⟩ | ⟨o1, _⟩
                · exact hc.1 (o2.symm.trans hk4)
                · exact hc.1 o1
              obtain ⟨a0, a1, a2, a3, a4⟩ := hst'
              have hout' := hout.resolve_left fun hc => hc.1 a0
              obtain ⟨_, o2, o3⟩ := hout'
              obtain ⟨o4, o5, o6, o7⟩ := o3 hk4
              rw [if_pos a1, if_pos a2, ← a3, if_pos (o2.symm.trans hk4), ← o4, ← o5, ← a4] at cE
              have hLI : Ints G4 lv L := ⟨hA4.elems, o6, by omega⟩
              have hitem := hItem i (d2) L (by omega) fun Lf hLf => by
                rw [hEdef ck0] at hLf
                by_cases hE0 : (eF (bl s).length.succ 0 n 0 (bl s0) []).1 = 0
                · rw [if_pos hE0, Prod.mk.injEq] at hLf
                  rw [← cE] at hLf hE0
                  obtain ⟨l, m1, _⟩ := eF_canon _ _ _ _ _ _ _ _ (by unfold inI64 at hd2; omega) (trip1 hE0)
                  rw [← hLf.2, m1]
                  refine ⟨by simp; omega, ?_⟩
                  rw [List.getElem_append_left (by simp; omega), List.getElem_append_right (by omega)]
                  simp [ca]
                · rw [if_neg hE0, Prod.mk.injEq] at hLf
                  exact absurd hLf.1 hE0
              obtain ⟨ol, hol, _⟩ := hLI.opened
              subst hol
              simp only [zaa, zab, zac, zad, zae, zaf, zag, zah, zai, zaj, zak, zal, zam, zan, zao, zap, zaq, zar, zas, zat, zau, zav, zaw, zax, zay, zaz, zba, aUn, zbb, zbc, zbd, zbe, zbf, zbg, zbh, zbi, zbj, zbk, zbl, zbm, zbn, flat, simple, zbo, zbp, zbq, zbr, zbs, zbt, zbu, zbv, zbw, zbx, zby, zbz, zca, zcb, zcc, zcd, zce, zcf, zcg, zch, zci, zcj, zck, zcl, zcm, zcn, zco, zcp, zcq, zcr, Nat.reduceEqDiff, Nat.reduceLT, Nat.reduceAdd, Nat.reduceSub, reduceIte, Kt_P, zcs, zct, zcu, zcv, zcw, zcx, zcy, zcz, zda, zdb, zdc, zdd, zde, zdf, zdg, zdh, zdi, zdj, zdk, reduceCtorEq, zdl, zdm, zdn, goInt, zdo, zdp, zdq, zdr, zds, zdt, zdu, zdv, zdw, zdx, zdy, zdz, zea, zeb, zec, zed, zdk, zee, zef, zeg, zeh, zei, zej, zek, zel, zem, zen, zeo, zep, zeq, zer, zes, zet, zeu, zev, zew, zex, zey, ya, yb, yc, yd, ye, yf, ts_int, ts_int64, ts_bool, ts_ints, ts_post, ts_posts, yg, yh, yi, yj, yk, yl, ym, ts_intsl, ts_int64s, ts_bools, ts_side, ts_sideb, ts_pints, ts_pbool, aPure, aLen, ywa, ywb, ywc, ywd, ywe, ywf, ywg, ywh, ywi, ywj, ywk, ywl, ywm, ywn, ywo, ts_string, ts_u8, ts_u64, ts_error, ts_bytes, ts_arr, ts_reader, ts_pbuilder, ts_builder, cv_64_8, cv_8_64, cv_64_i64, cv_i64_64, cv_64_int, cv_int_64, errV_0, hk4f, not_false_eq_true, e1, l8]
              refine (hR.round i W G4 _ hitem.1 hI4 (by omega) (fun b hb => ⟨(hW4 b hb).1, (hWW b hb).2.2.2⟩) (hitem.2 _ G4 hLI hd2)).mono ?_
              rintro v G5 ⟨W', hF5, hW5, hv⟩
              have hg5 := hF5.next
              have hF15 : Fr (fun b => W1 b ∨ b = br) A1 G5 := hF14.trans hF5 fun b hb h => .inl ((hW4 b h).2.resolve_right (by omega))
              have hW5' : ∀ b, W' b → b < G5.next ∧ (W1 b ∨ A1.next ≤ b) := fun b hb => ⟨(hW5 b hb).1, (hW5 b hb).2.elim (fun h => (hW4 b h).2) fun h => .inr (by omega)⟩
              rcases hv with ⟨rfl, hI5⟩ | ⟨rfl, hS5⟩
              · simp only [zaa, zab, zac, zad, zae, zaf, zag, zah, zai, zaj, zak, zal, zam, zan, zao, zap, zaq, zar, zas, zat, zau, zav, zaw, zax, zay, zaz, zba, aUn, zbb, zbc, zbd, zbe, zbf, zbg, zbh, zbi, zbj, zbk, zbl, zbm, zbn, flat, simple, zbo, zbp, zbq, zbr, zbs, zbt, zbu, zbv, zbw, zbx, zby, zbz, zca, zcb, zcc, zcd, zce, zcf, zcg, zch, zci, zcj, zck, zcl, zcm, zcn, zco, zcp, zcq, zcr, Nat.reduceEqDiff, Nat.reduceLT, Nat.reduceAdd, Nat.reduceSub, reduceIte, Kt_P, zcs, zct, zcu, zcv, zcw, zcx, zcy, zcz, zda, zdb, zdc, zdd, zde, zdf, zdg, zdh, zdi, zdj, zdk, reduceCtorEq, zdl, zdm, zdn, goInt, zdo, zdp, zdq, zdr, zds, zdt, zdu, zdv, zdw, zdx, zdy, zdz, zea, zeb, zec, zed, zdk, zee, zef, zeg, zeh, zei, zej, zek, zel, zem, zen, zeo, zep, zeq, zer, zes, zet, zeu, zev, zew, zex, zey, ya, yb, yc, yd, ye, yf, ts_int, ts_int64, ts_bool, ts_ints, ts_post, ts_posts, yg, yh, yi, yj, yk, yl, ym, ts_intsl, ts_int64s, ts_bools, ts_side, ts_sideb, ts_pints, ts_pbool, aPure, aLen, ywa, ywb, ywc, ywd, ywe, ywf, ywg, ywh, ywi, ywj, ywk, ywl, ywm, ywn, ywo, ts_string, ts_u8, ts_u64, ts_error, ts_bytes, ts_arr, ts_reader, ts_pbuilder, ts_builder, cv_64_8, cv_8_64, cv_64_i64, cv_i64_64, cv_64_int, cv_int_64, errV_0, e6, hisucc]
                refine ⟨n - (i + 1), by omega, i + 1, d2, s4, k4, W', acc ++ [(d2, L)], by simp [put_at, e0, e1, e4], rfl, by omega, by omega, hF5.box hR4 (fun h => (hWW br h).2.2.1 rfl), hI5, hF15,
                  fun b hb => ⟨(hW5' b hb).1, (hW5' b hb).2, ?_, ?_⟩, .inr ⟨hk4, ck0, hd2, by simp; omega, by omega, f0, ?_, ?_⟩⟩
                · rcases (hW5 b hb).2 with h | h
                  · exact (hWW b h).2.2.1
                  · omega
                · rcases (hW5 b hb).2 with h | h
                  · exact (hWW b h).2.2.2
                  · intro hc; have := hRd b hc; omega
                · have := (hs2l a0).2
                  rw [o4]
                  have hpl := plOut_le (bl s2)
                  omega
                · exact cE
              · simp only [zaa, zab, zac, zad, zae, zaf, zag, zah, zai, zaj, zak, zal, zam, zan, zao, zap, zaq, zar, zas, zat, zau, zav, zaw, zax, zay, zaz, zba, aUn, zbb, zbc, zbd, zbe, zbf, zbg, zbh, zbi, zbj, zbk, zbl, zbm, zbn, flat, simple, zbo, zbp, zbq, zbr, zbs, zbt, zbu, zbv, zbw, zbx, zby, zbz, zca, zcb, zcc, zcd, zce, zcf, zcg, zch, zci, zcj, zck, zcl, zcm, zcn, zco, zcp, zcq, zcr, Nat.reduceEqDiff, Nat.reduceLT, Nat.reduceAdd, Nat.reduceSub, reduceIte, Kt_P, zcs, zct, zcu, zcv, zcw, zcx, zcy, zcz, zda, zdb, zdc, zdd, zde, zdf, zdg, zdh, zdi, zdj, zdk, reduceCtorEq, zdl, zdm, zdn, goInt, zdo, zdp, zdq, zdr, zds, zdt, zdu, zdv, zdw, zdx, zdy, zdz, zea, zeb, zec, zed, zdk, zee, zef, zeg, zeh, zei, zej, zek, zel, zem, zen, zeo, zep, zeq, zer, zes, zet, zeu, zev, zew, zex, zey, ya, yb, yc, yd, ye, yf, ts_int, ts_int64, ts_bool, ts_ints, ts_post, ts_posts, yg, yh, yi, yj, yk, yl, ym, ts_intsl, ts_int64s, ts_bools, ts_side, ts_sideb, ts_pints, ts_pbool, aPure, aLen, ywa, ywb, ywc, ywd, ywe, ywf, ywg, ywh, ywi, ywj, ywk, ywl, ywm, ywn, ywo, ts_string, ts_u8, ts_u64, ts_error, ts_bytes, ts_arr, ts_reader, ts_pbuilder, ts_builder, cv_64_8, cv_8_64, cv_64_i64, cv_i64_64, cv_64_int, cv_int_64, errV_0]
                exact hQ G5 W' s4 k4 hF15 hW5' (.inl hS5)
            · have hk4t : (k4 ≠ 0) = True := eq_true hk4
              simp only [zaa, zab, zac, zad, zae, zaf, zag, zah, zai, zaj, zak, zal, zam, zan, zao, zap, zaq, zar, zas, zat, zau, zav, zaw, zax, zay, zaz, zba, aUn, zbb, zbc, zbd, zbe, zbf, zbg, zbh, zbi, zbj, zbk, zbl, zbm, zbn, flat, simple, zbo, zbp, zbq, zbr, zbs, zbt, zbu, zbv, zbw, zbx, zby, zbz, zca, zcb, zcc, zcd, zce, zcf, zcg, zch, zci, zcj, zck, zcl, zcm, zcn, zco, zcp, zcq, zcr, Nat.reduceEqDiff, Nat.reduceLT, Nat.reduceAdd, Nat.reduceSub, reduceIte, Kt_P, zcs, zct, zcu, zcv, zcw, zcx, zcy, zcz, zda, zdb, zdc, zdd, zde, zdf, zdg, zdh, zdi, zdj, zdk, reduceCtorEq, zdl, zdm, zdn, goInt, zdo, zdp, zdq, zdr, zds, zdt, zdu, zdv, zdw, zdx, zdy, zdz, zea, zeb, zec, zed, zdk, zee, zef, zeg, zeh, zei, zej, zek, zel, zem, zen, zeo, zep, zeq, zer, zes, zet, zeu, zev, zew, zex, zey, ya, yb, yc, yd, ye, yf, ts_int, ts_int64, ts_bool, ts_ints, ts_post, ts_posts, yg, yh, yi, yj, yk, yl, ym, ts_intsl, ts_int64s, ts_bools, ts_side, ts_sideb, ts_pints, ts_pbool, aPure, aLen, ywa, ywb, ywc, ywd, ywe, ywf, ywg, ywh, ywi, ywj, ywk, ywl, ywm, ywn, ywo, ts_string, ts_u8, ts_u64, ts_error, ts_bytes, ts_arr, ts_reader, ts_pbuilder, ts_builder, cv_64_8, cv_8_64, cv_64_i64, cv_i64_64, cv_64_int, cv_int_64, errV_0, hk4t, not_true_eq_false]
              have hE1 : (eF (bl s).length.succ 0 n 0 (bl s0) []).1 = k4 := by
                rcases hst with ⟨a0, a1, a2, a3, a4⟩ | ⟨a0, a1⟩
                · rcases hout with ⟨o1, _⟩ | ⟨_, o2, _⟩
                  · exact absurd a0 o1
                  · rw [if_pos a1, if_pos a2, ← a3, if_neg (by rw [← o2]; exact hk4)] at cE
                    rw [← cE, o2]
                · rcases hout with ⟨_, o2⟩ | ⟨o1, _⟩
                  · rw [a1, o2]
                  · exact absurd o1 a0
              refine hQ G4 W s4 k4 hF14 hW4 (.inr ⟨?_, hR4, i, hI4, fun h => absurd h hk4⟩)
              rw [hEdef ck0, if_neg (by rw [hE1]; exact hk4), hE1]
          · have q3 : ((x : Int) ≤ 9223372036854775807 - doc) = False := eq_false p3
            simp only [zaa, zab, zac, zad, zae, zaf, zag, zah, zai, zaj, zak, zal, zam, zan, zao, zap, zaq, zar, zas, zat, zau, zav, zaw, zax, zay, zaz, zba, aUn, zbb, zbc, zbd, zbe, zbf, zbg, zbh, zbi, zbj, zbk, zbl, zbm, zbn, flat, simple, zbo, zbp, zbq, zbr, zbs, zbt, zbu, zbv, zbw, zbx, zby, zbz, zca, zcb, zcc, zcd, zce, zcf, zcg, zch, zci, zcj, zck, zcl, zcm, zcn, zco, zcp, zcq, zcr, Nat.reduceEqDiff, Nat.reduceLT, Nat.reduceAdd, Nat.reduceSub, reduceIte, Kt_P, zcs, zct, zcu, zcv, zcw, zcx, zcy, zcz, zda, zdb, zdc, zdd, zde, zdf, zdg, zdh, zdi, zdj, zdk, reduceCtorEq, zdl, zdm, zdn, goInt, zdo, zdp, zdq, zdr, zds, zdt, zdu, zdv, zdw, zdx, zdy, zdz, zea, zeb, zec, zed, zdk, zee, zef, zeg, zeh, zei, zej, zek, zel, zem, zen, zeo, zep, zeq, zer, zes, zet, zeu, zev, zew, zex, zey, ya, yb, yc, yd, ye, yf, ts_int, ts_int64, ts_bool, ts_ints, ts_post, ts_posts, yg, yh, yi, yj, yk, yl, ym, ts_intsl, ts_int64s, ts_bools, ts_side, ts_sideb, ts_pints, ts_pbool, aPure, aLen, ywa, ywb, ywc, ywd, ywe, ywf, ywg, ywh, ywi, ywj, ywk, ywl, ywm, ywn, ywo, ts_string, ts_u8, ts_u64, ts_error, ts_bytes, ts_arr, ts_reader, ts_pbuilder, ts_builder, cv_64_8, cv_8_64, cv_64_i64, cv_i64_64, cv_64_int, cv_int_64, errV_0, e0, e5, q1, q3, hsubw]
            refine (hcut false ⟨fun h => (by cases h), fun h => absurd h.2 p3⟩).mono ?_
            rintro v G2 ⟨k2, hn2, hF2', hR2, rfl, hst⟩
            obtain ⟨d2, hd2e⟩ : ∃ d2, IntKind.i64.wrap (doc + IntKind.i64.wrap (x : Int)) = d2 := ⟨_, rfl⟩
            have hd2 : inI64 d2 := by rw [← hd2e]; exact i64_in _
            have hF2 := hFH.trans hF2' fun _ _ h => h
            rw [hd2e] at hst
            simp only [zaa, zab, zac, zad, zae, zaf, zag, zah, zai, zaj, zak, zal, zam, zan, zao, zap, zaq, zar, zas, zat, zau, zav, zaw, zax, zay, zaz, zba, aUn, zbb, zbc, zbd, zbe, zbf, zbg, zbh, zbi, zbj, zbk, zbl, zbm, zbn, flat, simple, zbo, zbp, zbq, zbr, zbs, zbt, zbu, zbv, zbw, zbx, zby, zbz, zca, zcb, zcc, zcd, zce, zcf, zcg, zch, zci, zcj, zck, zcl, zcm, zcn, zco, zcp, zcq, zcr, Nat.reduceEqDiff, Nat.reduceLT, Nat.reduceAdd, Nat.reduceSub, reduceIte, Kt_P, zcs, zct, zcu, zcv, zcw, zcx, zcy, zcz, zda, zdb, zdc, zdd, zde, zdf, zdg, zdh, zdi, zdj, zdk, reduceCtorEq, zdl, zdm, zdn, goInt, zdo, zdp, zdq, zdr, zds, zdt, zdu, zdv, zdw, zdx, zdy, zdz, zea, zeb, zec, zed, zdk, zee, zef, zeg, zeh, zei, zej, zek, zel, zem, zen, zeo, zep, zeq, zer, zes, zet, zeu, zev, zew, zex, zey, ya, yb, yc, yd, ye, yf, ts_int, ts_int64, ts_bool, ts_ints, ts_post, ts_posts, yg, yh, yi, yj, yk, yl, ym, ts_intsl, ts_int64s, ts_bools, ts_side, ts_sideb, ts_pints, ts_pbool, aPure, aLen, ywa, ywb, ywc, ywd, ywe, ywf, ywg, ywh, ywi, ywj, ywk, ywl, ywm, ywn, ywo, ts_string, ts_u8, ts_u64, ts_error, ts_bytes, ts_arr, ts_reader, ts_pbuilder, ts_builder, cv_64_8, cv_8_64, cv_64_i64, cv_i64_64, cv_64_int, cv_int_64, errV_0, e0, e1, e5, hd2e]
            refine OpW_alloc_of ts_ints tz_ints rfl fun b8 G3 hb8 hm3 hE3 hB3 => ?_
            replace hB3 : Box G3 b8 42 [.slice none 0 0] := hB3
            simp only [zaa, zab, zac, zad, zae, zaf, zag, zah, zai, zaj, zak, zal, zam, zan, zao, zap, zaq, zar, zas, zat, zau, zav, zaw, zax, zay, zaz, zba, aUn, zbb, zbc, zbd, zbe, zbf, zbg, zbh, zbi, zbj, zbk, zbl, zbm, zbn, flat, simple, zbo, zbp, zbq, zbr, zbs, zbt, zbu, zbv, zbw, zbx, zby, zbz, zca, zcb, zcc, zcd, zce, zcf, zcg, zch, zci, zcj, zck, zcl, zcm, zcn, zco, zcp, zcq, zcr, Nat.reduceEqDiff, Nat.reduceLT, Nat.reduceAdd, Nat.reduceSub, reduceIte, Kt_P, zcs, zct, zcu, zcv, zcw, zcx, zcy, zcz, zda, zdb, zdc, zdd, zde, zdf, zdg, zdh, zdi, zdj, zdk, reduceCtorEq, zdl, zdm, zdn, goInt, zdo, zdp, zdq, zdr, zds, zdt, zdu, zdv, zdw, zdx, zdy, zdz, zea, zeb, zec, zed, zdk, zee, zef, zeg, zeh, zei, zej, zek, zel, zem, zen, zeo, zep, zeq, zer, zes, zet, zeu, zev, zew, zex, zey, ya, yb, yc, yd, ye, yf, ts_int, ts_int64, ts_bool, ts_ints, ts_post, ts_posts, yg, yh, yi, yj, yk, yl, ym, ts_intsl, ts_int64s, ts_bools, ts_side, ts_sideb, ts_pints, ts_pbool, aPure, aLen, ywa, ywb, ywc, ywd, ywe, ywf, ywg, ywh, ywi, ywj, ywk, ywl, ywm, ywn, ywo, ts_string, ts_u8, ts_u64, ts_error, ts_bytes, ts_arr, ts_reader, ts_pbuilder, ts_builder, cv_64_8, cv_8_64, cv_64_i64, cv_i64_64, cv_64_int, cv_int_64, errV_0, e0]
            rw [CalF_cal (Kt_prim (by decide) _ _)]
            have hR3 := hE3.box hR2 fun h => h
            have hg2 := hF2.next
            have hs2l : k2 = 0 → (bl s2).length ≤ 2000000 ∧ (bl s2).length < (bl s').length := fun hk => by
              rcases hst with ⟨_, a1, _, a2, _⟩ | ⟨a1, _⟩
              · have := (rdU_one a1).2.1
                rw [a2]; omega
              · exact absurd hk a1
            have hbr3 := hR2.1
            have hs2b : (bl s2).length ≤ 2000000 := by rw [hs2, List.length_drop]; omega
            have hplaces : ∀ Q', (∀ A' s4 k4 lv L, Fr (fun j => j = br ∨ j = b8) G3 A' → Rdr A' br s4 k4 → Box A' b8 42 [lv] → Acc A' 3 1 lv L.length (ints L) → (∀ b, blockOf lv b → G3.next ≤ b) →
                  ((k2 ≠ 0 ∧ k4 = k2) ∨ (k2 = 0 ∧ k4 = (plOut (bl s2)).1 ∧ (k4 = 0 → bl s4 = (plOut (bl s2)).2.1 ∧ L = (plOut (bl s2)).2.2 ∧ (∀ x ∈ L, inI64 x) ∧ L.length + (bl s4).length ≤ 2000000))) → Q' (.tuple #[]) A') →
                Cal Kt 61 #[.pointer (some ⟨br, 0, none⟩), .func (.func 62) #[] #[.pointer (some ⟨b8, 0, none⟩)]] G3 Q' :=
              fun Q' hq' => places_ok G3 br b8 s2 k2 hR3 hs2b hB3 (by omega) Q' hq'
            refine hplaces _ fun G4 s4 k4 lv L hF4 hR4 hB4 hA4 hblk4 hout => ?_
            have l4 := hR4.load (P := Tryd.prog) (o := 1) (t := 26) Tryd.underlying26 rfl rfl
            have l8 := hB4.load (P := Tryd.prog) (o := 0) (t := 42) Tryd.underlying42 rfl rfl
            have hg4 := hF4.next
            have hFG4 : Fr (fun j => j = br) G G4 := (hF2.trans hE3 fun b _ h => h.elim).trans hF4 fun b hb h => h.resolve_right (by omega)
            have hK4 : Keep base W G G4 := hFG4.keep fun b hb h => by subst h; exact ⟨hbase, fun hw => (hWW _ hw).2.2.1 rfl⟩
            have hF14 : Fr (fun b => W1 b ∨ b = br) A1 G4 := hF.trans hFG4 fun b _ h => .inr h
            have hI4 := hR.stab _ _ _ _ hIi hK4
            have hW4 : ∀ b, W b → b < G4.next ∧ (W1 b ∨ A1.next ≤ b) := fun b hb => ⟨by have := (hWo b hb).1; omega, (hWo b hb).2⟩
            simp only [zaa, zab, zac, zad, zae, zaf, zag, zah, zai, zaj, zak, zal, zam, zan, zao, zap, zaq, zar, zas, zat, zau, zav, zaw, zax, zay, zaz, zba, aUn, zbb, zbc, zbd, zbe, zbf, zbg, zbh, zbi, zbj, zbk, zbl, zbm, zbn, flat, simple, zbo, zbp, zbq, zbr, zbs, zbt, zbu, zbv, zbw, zbx, zby, zbz, zca, zcb, zcc, zcd, zce, zcf, zcg, zch, zci, zcj, zck, zcl, zcm, zcn, zco, zcp, zcq, zcr, Nat.reduceEqDiff, Nat.reduceLT, Nat.reduceAdd, Nat.reduceSub, reduceIte, Kt_P, zcs, zct, zcu, zcv, zcw, zcx, zcy, zcz, zda, zdb, zdc, zdd, zde, zdf, zdg, zdh, zdi, zdj, zdk, reduceCtorEq, zdl, zdm, zdn, goInt, zdo, zdp, zdq, zdr, zds, zdt, zdu, zdv, zdw, zdx, zdy, zdz, zea, zeb, zec, zed, zdk, zee, zef, zeg, zeh, zei, zej, zek, zel, zem, zen, zeo, zep, zeq, zer, zes, zet, zeu, zev, zew, zex, zey, ya, yb, yc, yd, ye, yf, ts_int, ts_int64, ts_bool, ts_ints, ts_post, ts_posts, yg, yh, yi, yj, yk, yl, ym, ts_intsl, ts_int64s, ts_bools, ts_side, ts_sideb, ts_pints, ts_pbool, aPure, aLen, ywa, ywb, ywc, ywd, ywe, ywf, ywg, ywh, ywi, ywj, ywk, ywl, ywm, ywn, ywo, ts_string, ts_u8, ts_u64, ts_error, ts_bytes, ts_arr, ts_reader, ts_pbuilder, ts_builder, cv_64_8, cv_8_64, cv_64_i64, cv_i64_64, cv_64_int, cv_int_64, errV_0, e0, e1, l4, l8, err_neq]
            by_cases hk4 : k4 = 0
            · have hk4f : (k4 ≠ 0) = False := eq_false (fun h => h hk4)
              have hst' := hst.resolve_right fun hc => by
                rcases hout with ⟨_, o2⟩ | ⟨o1, _⟩
                · exact hc.1 (o2.symm.trans hk4)
                · exact hc.1 o1
              obtain ⟨a0, a1, a2, a3, a4⟩ := hst'
              have hout' := hout.resolve_left fun hc => hc.1 a0
              obtain ⟨_, o2, o3⟩ := hout'
              obtain ⟨o4, o5, o6, o7⟩ := o3 hk4
              rw [if_pos a1, if_pos a2, ← a3, if_pos (o2.symm.trans hk4), ← o4, ← o5, ← a4] at cE
              have hLI : Ints G4 lv L := ⟨hA4.elems, o6, by omega⟩
              have hitem := hItem i (d2) L (by omega) fun Lf hLf => by
                rw [hEdef ck0] at hLf
                by_cases hE0 : (eF (bl s).length.succ 0 n 0 (bl s0) []).1 = 0
                · rw [if_pos hE0, Prod.mk.injEq] at hLf
                  rw [← cE] at hLf hE0
                  obtain ⟨l, m1, _⟩ := eF_canon _ _ _ _ _ _ _ _ (by unfold inI64 at hd2; omega) (trip1 hE0)
                  rw [← hLf.2, m1]
                  refine ⟨by simp; omega, ?_⟩
                  rw [List.getElem_append_left (by simp; omega), List.getElem_append_right (by omega)]
                  simp [ca]
                · rw [if_neg hE0, Prod.mk.injEq] at hLf
                  exact absurd hLf.1 hE0
              obtain ⟨ol, hol, _⟩ := hLI.opened
              subst hol
              simp only [zaa, zab, zac, zad, zae, zaf, zag, zah, zai, zaj, zak, zal, zam, zan, zao, zap, zaq, zar, zas, zat, zau, zav, zaw, zax, zay, zaz, zba, aUn, zbb, zbc, zbd, zbe, zbf, zbg, zbh, zbi, zbj, zbk, zbl, zbm, zbn, flat, simple, zbo, zbp, zbq, zbr, zbs, zbt, zbu, zbv, zbw, zbx, zby, zbz, zca, zcb, zcc, zcd, zce, zcf, zcg, zch, zci, zcj, zck, zcl, zcm, zcn, zco, zcp, zcq, zcr, Nat.reduceEqDiff, Nat.reduceLT, Nat.reduceAdd, Nat.reduceSub, reduceIte, Kt_P, zcs, zct, zcu, zcv, zcw, zcx, zcy, zcz, zda, zdb, zdc, zdd, zde, zdf, zdg, zdh, zdi, zdj, zdk, reduceCtorEq, zdl, zdm, zdn, goInt, zdo, zdp, zdq, zdr, zds, zdt, zdu, zdv, zdw, zdx, zdy, zdz, zea, zeb, zec, zed, zdk, zee, zef, zeg, zeh, zei, zej, zek, zel, zem, zen, zeo, zep, zeq, zer, zes, zet, zeu, zev, zew, zex, zey, ya, yb, yc, yd, ye, yf, ts_int, ts_int64, ts_bool, ts_ints, ts_post, ts_posts, yg, yh, yi, yj, yk, yl, ym, ts_intsl, ts_int64s, ts_bools, ts_side, ts_sideb, ts_pints, ts_pbool, aPure, aLen, ywa, ywb, ywc, ywd, ywe, ywf, ywg, ywh, ywi, ywj, ywk, ywl, ywm, ywn, ywo, ts_string, ts_u8, ts_u64, ts_error, ts_bytes, ts_arr, ts_reader, ts_pbuilder, ts_builder, cv_64_8, cv_8_64, cv_64_i64, cv_i64_64, cv_64_int, cv_int_64, errV_0, hk4f, not_false_eq_true, e1, l8]
              refine (hR.round i W G4 _ hitem.1 hI4 (by omega) (fun b hb => ⟨(hW4 b hb).1, (hWW b hb).2.2.2⟩) (hitem.2 _ G4 hLI hd2)).mono ?_
              rintro v G5 ⟨W', hF5, hW5, hv⟩
              have hg5 := hF5.next
              have hF15 : Fr (fun b => W1 b ∨ b = br) A1 G5 := hF14.trans hF5 fun b hb h => .inl ((hW4 b h).2.resolve_right (by omega))
              have hW5' : ∀ b, W' b → b < G5.next ∧ (W1 b ∨ A1.next ≤ b) := fun b hb => ⟨(hW5 b hb).1, (hW5 b hb).2.elim (fun h => (hW4 b h).2) fun h => .inr (by omega)⟩
              rcases hv with ⟨rfl, hI5⟩ | ⟨rfl, hS5⟩
              · simp only [zaa, zab, zac, zad, zae, zaf, zag, zah, zai, zaj, zak, zal, zam, zan, zao, zap, zaq, zar, zas, zat, zau, zav, zaw, zax, zay, zaz, zba, aUn, zbb, zbc, zbd, zbe, zbf, zbg, zbh, zbi, zbj, zbk, zbl, zbm, zbn, flat, simple, zbo, zbp, zbq, zbr, zbs, zbt, zbu, zbv, zbw, zbx, zby, zbz, zca, zcb, zcc, zcd, zce, zcf, zcg, zch, zci, zcj, zck, zcl, zcm, zcn, zco, zcp, zcq, zcr, Nat.reduceEqDiff, Nat.reduceLT, Nat.reduceAdd, Nat.reduceSub, reduceIte, Kt_P, zcs, zct, zcu, zcv, zcw, zcx, zcy, zcz, zda, zdb, zdc, zdd, zde, zdf, zdg, zdh, zdi, zdj, zdk, reduceCtorEq, zdl, zdm, zdn, goInt, zdo, zdp, zdq, zdr, zds, zdt, zdu, zdv, zdw, zdx, zdy, zdz, zea, zeb, zec, zed, zdk, zee, zef, zeg, zeh, zei, zej, zek, zel, zem, zen, zeo, zep, zeq, zer, zes, zet, zeu, zev, zew, zex, zey, ya, yb, yc, yd, ye, yf, ts_int, ts_int64, ts_bool, ts_ints, ts_post, ts_posts, yg, yh, yi, yj, yk, yl, ym, ts_intsl, ts_int64s, ts_bools, ts_side, ts_sideb, ts_pints, ts_pbool, aPure, aLen, ywa, ywb, ywc, ywd, ywe, ywf, ywg, ywh, ywi, ywj, ywk, ywl, ywm, ywn, ywo, ts_string, ts_u8, ts_u64, ts_error, ts_bytes, ts_arr, ts_reader, ts_pbuilder, ts_builder, cv_64_8, cv_8_64, cv_64_i64, cv_i64_64, cv_64_int, cv_int_64, errV_0, e6, hisucc]
                refine ⟨n - (i + 1), by omega, i + 1, d2, s4, k4, W', acc ++ [(d2, L)], by simp [put_at, e0, e1, e4], rfl, by omega, by omega, hF5.box hR4 (fun h => (hWW br h).2.2.1 rfl), hI5, hF15,
                  fun b hb => ⟨(hW5' b hb).1, (hW5' b hb).2, ?_, ?_⟩, .inr ⟨hk4, ck0, hd2, by simp; omega, by omega, f0, ?_, ?_⟩⟩
                · rcases (hW5 b hb).2 with h | h
                  · exact (hWW b h).2.2.1
                  · omega
                · rcases (hW5 b hb).2 with h | h
                  · exact (hWW b h).2.2.2
                  · intro hc; have := hRd b hc; omega
                · have := (hs2l a0).2
                  rw [o4]
                  have hpl := plOut_le (bl s2)
                  omega
                · exact cE
              · simp only [zaa, zab, zac, zad, zae, zaf, zag, zah, zai, zaj, zak, zal, zam, zan, zao, zap, zaq, zar, zas, zat, zau, zav, zaw, zax, zay, zaz, zba, aUn, zbb, zbc, zbd, zbe, zbf, zbg, zbh, zbi, zbj, zbk, zbl, zbm, zbn, flat, simple, zbo, zbp, zbq, zbr, zbs, zbt, zbu, zbv, zbw, zbx, zby, zbz, zca, zcb, zcc, zcd, zce, zcf, zcg, zch, zci, zcj, zck, zcl, zcm, zcn, zco, zcp, zcq, zcr, Nat.reduceEqDiff, Nat.reduceLT, Nat.reduceAdd, Nat.reduceSub, reduceIte, Kt_P, zcs, zct, zcu, zcv, zcw, zcx, zcy, zcz, zda, zdb, zdc, zdd, zde, zdf, zdg, zdh, zdi, zdj, zdk, reduceCtorEq, zdl, zdm, zdn, goInt, zdo, zdp, zdq, zdr, zds, zdt, zdu, zdv, zdw, zdx, zdy, zdz, zea, zeb, zec, zed, zdk, zee, zef, zeg, zeh, zei, zej, zek, zel, zem, zen, zeo, zep, zeq, zer, zes, zet, zeu, zev, zew, zex, zey, ya, yb, yc, yd, ye, yf, ts_int, ts_int64, ts_bool, ts_ints, ts_post, ts_posts, yg, yh, yi, yj, yk, yl, ym, ts_intsl, ts_int64s, ts_bools, ts_side, ts_sideb, ts_pints, ts_pbool, aPure, aLen, ywa, ywb, ywc, ywd, ywe, ywf, ywg, ywh, ywi, ywj, ywk, ywl, ywm, ywn, ywo, ts_string, ts_u8, ts_u64, ts_error, ts_bytes, ts_arr, ts_reader, ts_pbuilder, ts_builder, cv_64_8, cv_8_64, cv_64_i64, cv_i64_64, cv_64_int, cv_int_64, errV_0]
                exact hQ G5 W' s4 k4 hF15 hW5' (.inl hS5)
            · have hk4t : (k4 ≠ 0) = True := eq_true hk4
              simp only [zaa, zab, zac, zad, zae, zaf, zag, zah, zai, zaj, zak, zal, zam, zan, zao, zap, zaq, zar, zas, zat, zau, zav, zaw, zax, zay, zaz, zba, aUn, zbb, zbc, zbd, zbe, zbf, zbg, zbh, zbi, zbj, zbk, zbl, zbm, zbn, flat, simple, zbo, zbp, zbq, zbr, zbs, zbt, zbu, zbv, zbw, zbx, zby, zbz, zca, zcb, zcc, zcd, zce, zcf, zcg, zch, zci, zcj, zck, zcl, zcm, zcn, zco, zcp, zcq, zcr, Nat.reduceEqDiff, Nat.reduceLT, Nat.reduceAdd, Nat.reduceSub, reduceIte, Kt_P, zcs, zct, zcu, zcv, zcw, zcx, zcy, zcz, zda, zdb, zdc, zdd, zde, zdf, zdg, zdh, zdi, zdj, zdk, reduceCtorEq, zdl, zdm, zdn, goInt, zdo, zdp, zdq, zdr, zds, zdt, zdu, zdv, zdw, zdx, zdy, zdz, zea, zeb, zec, zed, zdk, zee, zef, zeg, zeh, zei, zej, zek, zel, zem, zen, zeo, zep, zeq, zer, zes, zet, zeu, zev, zew, zex, zey, ya, yb, yc, yd, ye, yf, ts_int, ts_int64, ts_bool, ts_ints, ts_post, ts_posts, yg, yh, yi, yj, yk, yl, ym, ts_intsl, ts_int64s, ts_bools, ts_side, ts_sideb, ts_pints, ts_pbool, aPure, aLen, ywa, ywb, ywc, ywd, ywe, ywf, ywg, ywh, ywi, ywj, ywk, ywl, ywm, ywn, ywo, ts_string, ts_u8, ts_u64, ts_error, ts_bytes, ts_arr, ts_reader, ts_pbuilder, ts_builder, cv_64_8, cv_8_64, cv_64_i64, cv_i64_64, cv_64_int, cv_int_64, errV_0, hk4t, not_true_eq_false]
              have hE1 : (eF (bl s).length.succ 0 n 0 (bl s0) []).1 = k4 := by
                rcases hst with ⟨a0, a1, a2, a3, a4⟩ | ⟨a0, a1⟩
                · rcases hout with ⟨o1, _⟩ | ⟨_, o2, _⟩
                  · exact absurd a0 o1
                  · rw [if_pos a1, if_pos a2, ← a3, if_neg (by rw [← o2]; exact hk4)] at cE
                    rw [← cE, o2]
                · rcases hout with ⟨_, o2⟩ | ⟨o1, _⟩
                  · rw [a1, o2]
                  · exact absurd o1 a0
              refine hQ G4 W s4 k4 hF14 hW4 (.inr ⟨?_, hR4, i, hI4, fun h => absurd h hk4⟩)
              rw [hEdef ck0, if_neg (by rw [hE1]; exact hk4), hE1]
        · have q1 : (0 < x) = False := eq_false p1
          simp only [zaa, zab, zac, zad, zae, zaf, zag, zah, zai, zaj, zak, zal, zam, zan, zao, zap, zaq, zar, zas, zat, zau, zav, zaw, zax, zay, zaz, zba, aUn, zbb, zbc, zbd, zbe, zbf, zbg, zbh, zbi, zbj, zbk, zbl, zbm, zbn, flat, simple, zbo, zbp, zbq, zbr, zbs, zbt, zbu, zbv, zbw, zbx, zby, zbz, zca, zcb, zcc, zcd, zce, zcf, zcg, zch, zci, zcj, zck, zcl, zcm, zcn, zco, zcp, zcq, zcr, Nat.reduceEqDiff, Nat.reduceLT, Nat.reduceAdd, Nat.reduceSub, reduceIte, Kt_P, zcs, zct, zcu, zcv, zcw, zcx, zcy, zcz, zda, zdb, zdc, zdd, zde, zdf, zdg, zdh, zdi, zdj, zdk, reduceCtorEq, zdl, zdm, zdn, goInt, zdo, zdp, zdq, zdr, zds, zdt, zdu, zdv, zdw, zdx, zdy, zdz, zea, zeb, zec, zed, zdk, zee, zef, zeg, zeh, zei, zej, zek, zel, zem, zen, zeo, zep, zeq, zer, zes, zet, zeu, zev, zew, zex, zey, ya, yb, yc, yd, ye, yf, ts_int, ts_int64, ts_bool, ts_ints, ts_post, ts_posts, yg, yh, yi, yj, yk, yl, ym, ts_intsl, ts_int64s, ts_bools, ts_side, ts_sideb, ts_pints, ts_pbool, aPure, aLen, ywa, ywb, ywc, ywd, ywe, ywf, ywg, ywh, ywi, ywj, ywk, ywl, ywm, ywn, ywo, ts_string, ts_u8, ts_u64, ts_error, ts_bytes, ts_arr, ts_reader, ts_pbuilder, ts_builder, cv_64_8, cv_8_64, cv_64_i64, cv_i64_64, cv_64_int, cv_int_64, errV_0, e0, e5, q1, hsubw]
          refine (hcut false ⟨fun h => (by cases h), fun h => absurd h.1 p1⟩).mono ?_
          rintro v G2 ⟨k2, hn2, hF2', hR2, rfl, hst⟩
          obtain ⟨d2, hd2e⟩ : ∃ d2, IntKind.i64.wrap (doc + IntKind.i64.wrap (x : Int)) = d2 := ⟨_, rfl⟩
          have hd2 : inI64 d2 := by rw [← hd2e]; exact i64_in _
          have hF2 := hFH.trans hF2' fun _ _ h => h
          rw [hd2e] at hst
          simp only [zaa, zab, zac, zad, zae, zaf, zag, zah, zai, zaj, zak, zal, zam, zan, zao, zap, zaq, zar, zas, zat, zau, zav, zaw, zax, zay, zaz, zba, aUn, zbb, zbc, zbd, zbe, zbf, zbg, zbh, zbi, zbj, zbk, zbl, zbm, zbn, flat, simple, zbo, zbp, zbq, zbr, zbs, zbt, zbu, zbv, zbw, zbx, zby, zbz, zca, zcb, zcc, zcd, zce, zcf, zcg, zch, zci, zcj, zck, zcl, zcm, zcn, zco, zcp, zcq, zcr, Nat.reduceEqDiff, Nat.reduceLT, Nat.reduceAdd, Nat.reduceSub, reduceIte, Kt_P, zcs, zct, zcu, zcv, zcw, zcx, zcy, zcz, zda, zdb, zdc, zdd, zde, zdf, zdg, zdh, zdi, zdj, zdk, reduceCtorEq, zdl, zdm, zdn, goInt, zdo, zdp, zdq, zdr, zds, zdt, zdu, zdv, zdw, zdx, zdy, zdz, zea, zeb, zec, zed, zdk, zee, zef, zeg, zeh, zei, zej, zek, zel, zem, zen, zeo, zep, zeq, zer, zes, zet, zeu, zev, zew, zex, zey, ya, yb, yc, yd, ye, yf, ts_int, ts_int64, ts_bool, ts_ints, ts_post, ts_posts, yg, yh, yi, yj, yk, yl, ym, ts_intsl, ts_int64s, ts_bools, ts_side, ts_sideb, ts_pints, ts_pbool, aPure, aLen, ywa, ywb, ywc, ywd, ywe, ywf, ywg, ywh, ywi, ywj, ywk, ywl, ywm, ywn, ywo, ts_string, ts_u8, ts_u64, ts_error, ts_bytes, ts_arr, ts_reader, ts_pbuilder, ts_builder, cv_64_8, cv_8_64, cv_64_i64, cv_i64_64, cv_64_int, cv_int_64, errV_0, e0, e1, e5, hd2e]
          refine OpW_alloc_of ts_ints tz_ints rfl fun b8 G3 hb8 hm3 hE3 hB3 => ?_
          replace hB3 : Box G3 b8 42 [.slice none 0 0] := hB3
          simp only [zaa, zab, zac, zad, zae, zaf, zag, zah, zai, zaj, zak, zal, zam, zan, zao, zap, zaq, zar, zas, zat, zau, zav, zaw, zax, zay, zaz, zba, aUn, zbb, zbc, zbd, zbe, zbf, zbg, zbh, zbi, zbj, zbk, zbl, zbm, zbn, flat, simple, zbo, zbp, zbq, zbr, zbs, zbt, zbu, zbv, zbw, zbx, zby, zbz, zca, zcb, zcc, zcd, zce, zcf, zcg, zch, zci, zcj, zck, zcl, zcm, zcn, zco, zcp, zcq, zcr, Nat.reduceEqDiff, Nat.reduceLT, Nat.reduceAdd, Nat.reduceSub, reduceIte, Kt_P, zcs, zct, zcu, zcv, zcw, zcx, zcy, zcz, zda, zdb, zdc, zdd, zde, zdf, zdg, zdh, zdi, zdj, zdk, reduceCtorEq, zdl, zdm, zdn, goInt, zdo, zdp, zdq, zdr, zds, zdt, zdu, zdv, zdw, zdx, zdy, zdz, zea, zeb, zec, zed, zdk, zee, zef, zeg, zeh, zei, zej, zek, zel, zem, zen, zeo, zep, zeq, zer, zes, zet, zeu, zev, zew, zex, zey, ya, yb, yc, yd, ye, yf, ts_int, ts_int64, ts_bool, ts_ints, ts_post, ts_posts, yg, yh, yi, yj, yk, yl, ym, ts_intsl, ts_int64s, ts_bools, ts_side, ts_sideb, ts_pints, ts_pbool, aPure, aLen, ywa, ywb, ywc, ywd, ywe, ywf, ywg, ywh, ywi, ywj, ywk, ywl, ywm, ywn, ywo, ts_string, ts_u8, ts_u64, ts_error, ts_bytes, ts_arr, ts_reader, ts_pbuilder, ts_builder, cv_64_8, cv_8_64, cv_64_i64, cv_i64_64, cv_64_int, cv_int_64, errV_0, e0]
          rw [CalF_cal (Kt_prim (by decide) _ _)]
          have hR3 := hE3.box hR2 fun h => h
          have hg2 := hF2.next
          have hs2l : k2 = 0 → (bl s2).length ≤ 2000000 ∧ (bl s2).length < (bl s').length := fun hk => by
            rcases hst with ⟨_, a1, _, a2, _⟩ | ⟨a1, _⟩
            · have := (rdU_one a1).2.1
              rw [a2]; omega
            · exact absurd hk a1
          have hbr3 := hR2.1
          have hs2b : (bl s2).length ≤ 2000000 := by rw [hs2, List.length_drop]; omega
          have hplaces : ∀ Q', (∀ A' s4 k4 lv L, Fr (fun j => j = br ∨ j = b8) G3 A' → Rdr A' br s4 k4 → Box A' b8 42 [lv] → Acc A' 3 1 lv L.length (ints L) → (∀ b, blockOf lv b → G3.next ≤ b) →
                ((k2 ≠ 0 ∧ k4 = k2) ∨ (k2 = 0 ∧ k4 = (plOut (bl s2)).1 ∧ (k4 = 0 → bl s4 = (plOut (bl s2)).2.1 ∧ L = (plOut (bl s2)).2.2 ∧ (∀ x ∈ L, inI64 x) ∧ L.length + (bl s4).length ≤ 2000000))) → Q' (.tuple #[]) A') →
              Cal Kt 61 #[.pointer (some ⟨br, 0, none⟩), .func (.func 62) #[] #[.pointer (some ⟨b8, 0, none⟩)]] G3 Q' :=
            fun Q' hq' => places_ok G3 br b8 s2 k2 hR3 hs2b hB3 (by omega) Q' hq'
          refine hplaces _ fun G4 s4 k4 lv L hF4 hR4 hB4 hA4 hblk4 hout => ?_
          have l4 := hR4.load (P := Tryd.prog) (o := 1) (t := 26) Tryd.underlying26 rfl rfl
          have l8 := hB4.load (P := Tryd.prog) (o := 0) (t := 42) Tryd.underlying42 rfl rfl
          have hg4 := hF4.next
          have hFG4 : Fr (fun j => j = br) G G4 := (hF2.trans hE3 fun b _ h => h.elim).trans hF4 fun b hb h => h.resolve_right (by omega)
          have hK4 : Keep base W G G4 := hFG4.keep fun b hb h => by subst h; exact ⟨hbase, fun hw => (hWW _ hw).2.2.1 rfl⟩
          have hF14 : Fr (fun b => W1 b ∨ b = br) A1 G4 := hF.trans hFG4 fun b _ h => .inr h
          have hI4 := hR.stab _ _ _ _ hIi hK4
          have hW4 : ∀ b, W b → b < G4.next ∧ (W1 b ∨ A1.next ≤ b) := fun b hb => ⟨by have := (hWo b hb).1; omega, (hWo b hb).2⟩
          simp only [zaa, zab, zac, zad, zae, zaf, zag, zah, zai, zaj, zak, zal, zam, zan, zao, zap, zaq, zar, zas, zat, zau, zav, zaw, zax, zay, zaz, zba, aUn, zbb, zbc, zbd, zbe, zbf, zbg, zbh, zbi, zbj, zbk, zbl, zbm, zbn, flat, simple, zbo, zbp, zbq, zbr, zbs, zbt, zbu, zbv, zbw, zbx, zby, zbz, zca, zcb, zcc, zcd, zce, zcf, zcg, zch, zci, zcj, zck, zcl, zcm, zcn, zco, zcp, zcq, zcr, Nat.reduceEqDiff, Nat.reduceLT, Nat.reduceAdd, Nat.reduceSub, reduceIte, Kt_P, zcs, zct, zcu, zcv, zcw, zcx, zcy, zcz, zda, zdb, zdc, zdd, zde, zdf, zdg, zdh, zdi, zdj, zdk, reduceCtorEq, zdl, zdm, zdn, goInt, zdo, zdp, zdq, zdr, zds, zdt, zdu, zdv, zdw, zdx, zdy, zdz, zea, zeb, zec, zed, zdk, zee, zef, zeg, zeh, zei, zej, zek, zel, zem, zen, zeo, zep, zeq, zer, zes, zet, zeu, zev, zew, zex, zey, ya, yb, yc, yd, ye, yf, ts_int, ts_int64, ts_bool, ts_ints, ts_post, ts_posts, yg, yh, yi, yj, yk, yl, ym, ts_intsl, ts_int64s, ts_bools, ts_side, ts_sideb, ts_pints, ts_pbool, aPure, aLen, ywa, ywb, ywc, ywd, ywe, ywf, ywg, ywh, ywi, ywj, ywk, ywl, ywm, ywn, ywo, ts_string, ts_u8, ts_u64, ts_error, ts_bytes, ts_arr, ts_reader, ts_pbuilder, ts_builder, cv_64_8, cv_8_64, cv_64_i64, cv_i64_64, cv_64_int, cv_int_64, errV_0, e0, e1, l4, l8, err_neq]
          by_cases hk4 : k4 = 0
          · have hk4f : (k4 ≠ 0) = False := eq_false (fun h => h hk4)
            have hst' := hst.resolve_right fun hc => by
              rcases hout with ⟨_, o2⟩ | ⟨o1, _⟩
              · exact hc.1 (o2.symm.trans hk4)
              · exact hc.1 o1
            obtain ⟨a0, a1, a2, a3, a4⟩ := hst'
            have hout' := hout.resolve_left fun hc => hc.1 a0
            obtain ⟨_, o2, o3⟩ := hout'
            obtain ⟨o4, o5, o6, o7⟩ := o3 hk4
            rw [if_pos a1, if_pos a2, ← a3, if_pos (o2.symm.trans hk4), ← o4, ← o5, ← a4] at cE
            have hLI : Ints G4 lv L := ⟨hA4.elems, o6, by omega⟩
            have hitem := hItem i (d2) L (by omega) fun Lf hLf => by
              rw [hEdef ck0] at hLf
              by_cases hE0 : (eF (bl s).length.succ 0 n 0 (bl s0) []).1 = 0
              · rw [if_pos hE0, Prod.mk.injEq] at hLf
                rw [← cE] at hLf hE0
                obtain ⟨l, m1, _⟩ := eF_canon _ _ _ _ _ _ _ _ (by unfold inI64 at hd2; omega) (trip1 hE0)
                rw [← hLf.2, m1]
                refine ⟨by simp; omega, ?_⟩
                rw [List.getElem_append_left (by simp; omega), List.getElem_append_right (by omega)]
                simp [ca]
              · rw [if_neg hE0, Prod.mk.injEq] at hLf
                exact absurd hLf.1 hE0
            obtain ⟨ol, hol, _⟩ := hLI.opened
            subst hol
            simp only [zaa, zab, zac, zad, zae, zaf, zag, zah, zai, zaj, zak, zal, zam, zan, zao, zap, zaq, zar, zas, zat, zau, zav, zaw, zax, zay, zaz, zba, aUn, zbb, zbc, zbd, zbe, zbf, zbg, zbh, zbi, zbj, zbk, zbl, zbm, zbn, flat, simple, zbo, zbp, zbq, zbr, zbs, zbt, zbu, zbv, zbw, zbx, zby, zbz, zca, zcb, zcc, zcd, zce, zcf, zcg, zch, zci, zcj, zck, zcl, zcm, zcn, zco, zcp, zcq, zcr, Nat.reduceEqDiff, Nat.reduceLT, Nat.reduceAdd, Nat.reduceSub, reduceIte, Kt_P, zcs, zct, zcu, zcv, zcw, zcx, zcy, zcz, zda, zdb, zdc, zdd, zde, zdf, zdg, zdh, zdi, zdj, zdk, reduceCtorEq, zdl, zdm, zdn, goInt, zdo, zdp, zdq, zdr, zds, zdt, zdu, zdv, zdw, zdx, zdy, zdz, zea, zeb, zec, zed, zdk, zee, zef, zeg, zeh, zei, zej, zek, zel, zem, zen, zeo, zep, zeq, zer, zes, zet, zeu, zev, zew, zex, zey, ya, yb, yc, yd, ye, yf, ts_int, ts_int64, ts_bool, ts_ints, ts_post, ts_posts, yg, yh, yi, yj, yk, yl, ym, ts_intsl, ts_int64s, ts_bools, ts_side, ts_sideb, ts_pints, ts_pbool, aPure, aLen, ywa, ywb, ywc, ywd, ywe, ywf, ywg, ywh, ywi, ywj, ywk, ywl, ywm, ywn, ywo, ts_string, ts_u8, ts_u64, ts_error, ts_bytes, ts_arr, ts_reader, ts_pbuilder, ts_builder, cv_64_8, cv_8_64, cv_64_i64, cv_i64_64, cv_64_int, cv_int_64, errV_0, hk4f, not_false_eq_true, e1, l8]
            refine (hR.round i W G4 _ hitem.1 hI4 (by omega) (fun b hb => ⟨(hW4 b hb).1, (hWW b hb).2.2.2⟩) (hitem.2 _ G4 hLI hd2)).mono ?_
            rintro v G5 ⟨W', hF5, hW5, hv⟩
            have hg5 := hF5.next
            have hF15 : Fr (fun b => W1 b ∨ b = br) A1 G5 := hF14.trans hF5 fun b hb h => .inl ((hW4 b h).2.resolve_right (by omega))
            have hW5' : ∀ b, W' b → b < G5.next ∧ (W1 b ∨ A1.next ≤ b) := fun b hb => ⟨(hW5 b hb).1, (hW5 b hb).2.elim (fun h => (hW4 b h).2) fun h => .inr (by omega)⟩
            rcases hv with ⟨rfl, hI5⟩ | ⟨rfl, hS5⟩
            · simp only [zaa, zab, zac, zad, zae, zaf, zag, zah, zai, zaj, zak, zal, zam, zan, zao, zap, zaq, zar, zas, zat, zau, zav, zaw, zax, zay, zaz, zba, aUn, zbb, zbc, zbd, zbe, zbf, zbg, zbh, zbi, zbj, zbk, zbl, zbm, zbn, flat, simple, zbo, zbp, zbq, zbr, zbs, zbt, zbu, zbv, zbw, zbx, zby, zbz, zca, zcb, zcc, zcd, zce, zcf, zcg, zch, zci, zcj, zck, zcl, zcm, zcn, zco, zcp, zcq, zcr, Nat.reduceEqDiff, Nat.reduceLT, Nat.reduceAdd, Nat.reduceSub, reduceIte, Kt_P, zcs, zct, zcu, zcv, zcw, zcx, zcy, zcz, zda, zdb, zdc, zdd, zde, zdf, zdg, zdh, zdi, zdj, zdk, reduceCtorEq, zdl, zdm, zdn, goInt, zdo, zdp, zdq, zdr, zds, zdt, zdu, zdv, zdw, zdx, zdy, zdz, zea, zeb, zec, zed, zdk, zee, zef, zeg, zeh, zei, zej, zek, zel, zem, zen, zeo, zep, zeq, zer, zes, zet, zeu, zev, zew, zex, zey, ya, yb, yc, yd, ye, yf, ts_int, ts_int64, ts_bool, ts_ints, ts_post, ts_posts, yg, yh, yi, yj, yk, yl, ym, ts_intsl, ts_int64s, ts_bools, ts_side, ts_sideb, ts_pints, ts_pbool, aPure, aLen, ywa, ywb, ywc, ywd, ywe, ywf, ywg, ywh, ywi, ywj, ywk, ywl, ywm, ywn, ywo, ts_string, ts_u8, ts_u64, ts_error, ts_bytes, ts_arr, ts_reader, ts_pbuilder, ts_builder, cv_64_8, cv_8_64, cv_64_i64, cv_i64_64, cv_64_int, cv_int_64, errV_0, e6, hisucc]
              refine ⟨n - (i + 1), by omega, i + 1, d2, s4, k4, W', acc ++ [(d2, L)], by simp [put_at, e0, e1, e4], rfl, by omega, by omega, hF5.box hR4 (fun h => (hWW br h).2.2.1 rfl), hI5, hF15,
                fun b hb => ⟨(hW5' b hb).1, (hW5' b hb).2, ?_, ?_⟩, .inr ⟨hk4, ck0, hd2, by simp; omega, by omega, f0, ?_, ?_⟩⟩
              · rcases (hW5 b hb).2 with h | h
                · exact (hWW b h).2.2.1
                · omega
              · rcases (hW5 b hb).2 with h | h
                · exact (hWW b h).2.2.2
                · intro hc; have := hRd b hc; omega
              · have := (hs2l a0).2
                rw [o4]
                have hpl := plOut_le (bl s2)
                omega
              · exact cE
            · simp only [zaa, zab, zac, zad, zae, zaf, zag, zah, zai, zaj, zak, zal, zam, zan, zao, zap, zaq, zar, zas, zat, zau, zav, zaw, zax, zay, zaz, zba, aUn, zbb, zbc, zbd, zbe, zbf, zbg, zbh, zbi, zbj, zbk, zbl, zbm, zbn, flat, simple, zbo, zbp, zbq, zbr, zbs, zbt, zbu, zbv, zbw, zbx, zby, zbz, zca, zcb, zcc, zcd, zce, zcf, zcg, zch, zci, zcj, zck, zcl, zcm, zcn, zco, zcp, zcq, zcr, Nat.reduceEqDiff, Nat.reduceLT, Nat.reduceAdd, Nat.reduceSub, reduceIte, Kt_P, zcs, zct, zcu, zcv, zcw, zcx, zcy, zcz, zda, zdb, zdc, zdd, zde, zdf, zdg, zdh, zdi, zdj, zdk, reduceCtorEq, zdl, zdm, zdn, goInt, zdo, zdp, zdq, zdr, zds, zdt, zdu, zdv, zdw, zdx, zdy, zdz, zea, zeb, zec, zed, zdk, zee, zef, zeg, zeh, zei, zej, zek, zel, zem, zen, zeo, zep, zeq, zer, zes, zet, zeu, zev, zew, zex, zey, ya, yb, yc, yd, ye, yf, ts_int, ts_int64, ts_bool, ts_ints, ts_post, ts_posts, yg, yh, yi, yj, yk, yl, ym, ts_intsl, ts_int64s, ts_bools, ts_side, ts_sideb, ts_pints, ts_pbool, aPure, aLen, ywa, ywb, ywc, ywd, ywe, ywf, ywg, ywh, ywi, ywj, ywk, ywl, ywm, ywn, ywo, ts_string, ts_u8, ts_u64, ts_error, ts_bytes, ts_arr, ts_reader, ts_pbuilder, ts_builder, cv_64_8, cv_8_64, cv_64_i64, cv_i64_64, cv_64_int, cv_int_64, errV_0]
              exact hQ G5 W' s4 k4 hF15 hW5' (.inl hS5)
          · have hk4t : (k4 ≠ 0) = True := eq_true hk4
            simp only [zaa, zab, zac, zad, zae, zaf, zag, zah, zai, zaj, zak, zal, zam, zan, zao, zap, zaq, zar, zas, zat, zau, zav, zaw, zax, zay, zaz, zba, aUn, zbb, zbc, zbd, zbe, zbf, zbg, zbh, zbi, zbj, zbk, zbl, zbm, zbn, flat, simple, zbo, zbp, zbq, zbr, zbs, zbt, zbu, zbv, zbw, zbx, zby, zbz, zca, zcb, zcc, zcd, zce, zcf, zcg, zch, zci, zcj, zck, zcl, zcm, zcn, zco, zcp, zcq, zcr, Nat.reduceEqDiff, Nat.reduceLT, Nat.reduceAdd, Nat.reduceSub, reduceIte, Kt_P, zcs, zct, zcu, zcv, zcw, zcx, zcy, zcz, zda, zdb, zdc, zdd, zde, zdf, zdg, zdh, zdi, zdj, zdk, reduceCtorEq, zdl, zdm, zdn, goInt, zdo, zdp, zdq, zdr, zds, zdt, zdu, zdv, zdw, zdx, zdy, zdz, zea, zeb, zec, zed, zdk, zee, zef, zeg, zeh, zei, zej, zek, zel, zem, zen, zeo, zep, zeq, zer, zes, zet, zeu, zev, zew, zex, zey, ya, yb, yc, yd, ye, yf, ts_int, ts_int64, ts_bool, ts_ints, ts_post, ts_posts, yg, yh, yi, yj, yk, yl, ym, ts_intsl, ts_int64s, ts_bools, ts_side, ts_sideb, ts_pints, ts_pbool, aPure, aLen, ywa, ywb, ywc, ywd, ywe, ywf, ywg, ywh, ywi, ywj, ywk, ywl, ywm, ywn, ywo, ts_string, ts_u8, ts_u64, ts_error, ts_bytes, ts_arr, ts_reader, ts_pbuilder, ts_builder, cv_64_8, cv_8_64, cv_64_i64, cv_i64_64, cv_64_int, cv_int_64, errV_0, hk4t, not_true_eq_false]
            have hE1 : (eF (bl s).length.succ 0 n 0 (bl s0) []).1 = k4 := by
              rcases hst with ⟨a0, a1, a2, a3, a4⟩ | ⟨a0, a1⟩
              · rcases hout with ⟨o1, _⟩ | ⟨_, o2, _⟩
                · exact absurd a0 o1
                · rw [if_pos a1, if_pos a2, ← a3, if_neg (by rw [← o2]; exact hk4)] at cE
                  rw [← cE, o2]
              · rcases hout with ⟨_, o2⟩ | ⟨o1, _⟩
                · rw [a1, o2]
                · exact absurd o1 a0
            refine hQ G4 W s4 k4 hF14 hW4 (.inr ⟨?_, hR4, i, hI4, fun h => absurd h hk4⟩)
            rw [hEdef ck0, if_neg (by rw [hE1]; exact hk4), hE1]
    · simp only [zaa, zab, zac, zad, zae, zaf, zag, zah, zai, zaj, zak, zal, zam, zan, zao, zap, zaq, zar, zas, zat, zau, zav, zaw, zax, zay, zaz, zba, aUn, zbb, zbc, zbd, zbe, zbf, zbg, zbh, zbi, zbj, zbk, zbl, zbm, zbn, flat, simple, zbo, zbp, zbq, zbr, zbs, zbt, zbu, zbv, zbw, zbx, zby, zbz, zca, zcb, zcc, zcd, zce, zcf, zcg, zch, zci, zcj, zck, zcl, zcm, zcn, zco, zcp, zcq, zcr, Nat.reduceEqDiff, Nat.reduceLT, Nat.reduceAdd, Nat.reduceSub, reduceIte, Kt_P, zcs, zct, zcu, zcv, zcw, zcx, zcy, zcz, zda, zdb, zdc, zdd, zde, zdf, zdg, zdh, zdi, zdj, zdk, reduceCtorEq, zdl, zdm, zdn, goInt, zdo, zdp, zdq, zdr, zds, zdt, zdu, zdv, zdw, zdx, zdy, zdz, zea, zeb, zec, zed, zdk, zee, zef, zeg, zeh, zei, zej, zek, zel, zem, zen, zeo, zep, zeq, zer, zes, zet, zeu, zev, zew, zex, zey, ya, yb, yc, yd, ye, yf, ts_int, ts_int64, ts_bool, ts_ints, ts_post, ts_posts, yg, yh, yi, yj, yk, yl, ym, ts_intsl, ts_int64s, ts_bools, ts_side, ts_sideb, ts_pints, ts_pbool, aPure, aLen, ywa, ywb, ywc, ywd, ywe, ywf, ywg, ywh, ywi, ywj, ywk, ywl, ywm, ywn, ywo, ts_string, ts_u8, ts_u64, ts_error, ts_bytes, ts_arr, ts_reader, ts_pbuilder, ts_builder, cv_64_8, cv_8_64, cv_64_i64, cv_i64_64, cv_64_int, cv_int_64, errV_0, e0, e1, e4, e5, e6, hge, l1, l0, err_eql]
      refine Grd_of (fun hk => ?_) (fun hk => ?_)
      · rcases hcase with ⟨c1, c2, c3, c4⟩ | ⟨c1, ck0, cd, ca, cs, f, cf, cE⟩
        · exact absurd hk c1
        subst hk
        obtain ⟨f0, rfl⟩ : ∃ f0, f = f0 + 1 := ⟨f - 1, by omega⟩
        rw [eF_step, if_neg hge] at cE
        have hE := hEdef ck0
        rw [← cE] at hE
        simp only [if_true] at hE
        simp only [zaa, zab, zac, zad, zae, zaf, zag, zah, zai, zaj, zak, zal, zam, zan, zao, zap, zaq, zar, zas, zat, zau, zav, zaw, zax, zay, zaz, zba, aUn, zbb, zbc, zbd, zbe, zbf, zbg, zbh, zbi, zbj, zbk, zbl, zbm, zbn, flat, simple, zbo, zbp, zbq, zbr, zbs, zbt, zbu, zbv, zbw, zbx, zby, zbz, zca, zcb, zcc, zcd, zce, zcf, zcg, zch, zci, zcj, zck, zcl, zcm, zcn, zco, zcp, zcq, zcr, Nat.reduceEqDiff, Nat.reduceLT, Nat.reduceAdd, Nat.reduceSub, reduceIte, Kt_P, zcs, zct, zcu, zcv, zcw, zcx, zcy, zcz, zda, zdb, zdc, zdd, zde, zdf, zdg, zdh, zdi, zdj, zdk, reduceCtorEq, zdl, zdm, zdn, goInt, zdo, zdp, zdq, zdr, zds, zdt, zdu, zdv, zdw, zdx, zdy, zdz, zea, zeb, zec, zed, zdk, zee, zef, zeg, zeh, zei, zej, zek, zel, zem, zen, zeo, zep, zeq, zer, zes, zet, zeu, zev, zew, zex, zey, ya, yb, yc, yd, ye, yf, ts_int, ts_int64, ts_bool, ts_ints, ts_post, ts_posts, yg, yh, yi, yj, yk, yl, ym, ts_intsl, ts_int64s, ts_bools, ts_side, ts_sideb, ts_pints, ts_pbool, aPure, aLen, ywa, ywb, ywc, ywd, ywe, ywf, ywg, ywh, ywi, ywj, ywk, ywl, ywm, ywn, ywo, ts_string, ts_u8, ts_u64, ts_error, ts_bytes, ts_arr, ts_reader, ts_pbuilder, ts_builder, cv_64_8, cv_8_64, cv_64_i64, cv_i64_64, cv_64_int, cv_int_64, errV_0, e0, l0, str_ne]
        by_cases hne : bl s' = []
        · have hd : decide (bl s' ≠ []) = false := decide_eq_false (fun h => h hne)
          simp only [zaa, zab, zac, zad, zae, zaf, zag, zah, zai, zaj, zak, zal, zam, zan, zao, zap, zaq, zar, zas, zat, zau, zav, zaw, zax, zay, zaz, zba, aUn, zbb, zbc, zbd, zbe, zbf, zbg, zbh, zbi, zbj, zbk, zbl, zbm, zbn, flat, simple, zbo, zbp, zbq, zbr, zbs, zbt, zbu, zbv, zbw, zbx, zby, zbz, zca, zcb, zcc, zcd, zce, zcf, zcg, zch, zci, zcj, zck, zcl, zcm, zcn, zco, zcp, zcq, zcr, Nat.reduceEqDiff, Nat.reduceLT, Nat.reduceAdd, Nat.reduceSub, reduceIte, Kt_P, zcs, zct, zcu, zcv, zcw, zcx, zcy, zcz, zda, zdb, zdc, zdd, zde, zdf, zdg, zdh, zdi, zdj, zdk, reduceCtorEq, zdl, zdm, zdn, goInt, zdo, zdp, zdq, zdr, zds, zdt, zdu, zdv, zdw, zdx, zdy, zdz, zea, zeb, zec, zed, zdk, zee, zef, zeg, zeh, zei, zej, zek, zel, zem, zen, zeo, zep, zeq, zer, zes, zet, zeu, zev, zew, zex, zey, ya, yb, yc, yd, ye, yf, ts_int, ts_int64, ts_bool, ts_ints, ts_post, ts_posts, yg, yh, yi, yj, yk, yl, ym, ts_intsl, ts_int64s, ts_bools, ts_side, ts_sideb, ts_pints, ts_pbool, aPure, aLen, ywa, ywb, ywc, ywd, ywe, ywf, ywg, ywh, ywi, ywj, ywk, ywl, ywm, ywn, ywo, ts_string, ts_u8, ts_u64, ts_error, ts_bytes, ts_arr, ts_reader, ts_pbuilder, ts_builder, cv_64_8, cv_8_64, cv_64_i64, cv_i64_64, cv_64_int, cv_int_64, errV_0, hd]
          rw [if_pos hne] at hE
          exact hQ G W s' 0 hF hWo (.inr ⟨by rw [hE], hRd', i, hIi, fun _ => by rw [hE]; exact ca.symm⟩)
        · have hd : decide (bl s' ≠ []) = true := decide_eq_true hne
          simp only [zaa, zab, zac, zad, zae, zaf, zag, zah, zai, zaj, zak, zal, zam, zan, zao, zap, zaq, zar, zas, zat, zau, zav, zaw, zax, zay, zaz, zba, aUn, zbb, zbc, zbd, zbe, zbf, zbg, zbh, zbi, zbj, zbk, zbl, zbm, zbn, flat, simple, zbo, zbp, zbq, zbr, zbs, zbt, zbu, zbv, zbw, zbx, zby, zbz, zca, zcb, zcc, zcd, zce, zcf, zcg, zch, zci, zcj, zck, zcl, zcm, zcn, zco, zcp, zcq, zcr, Nat.reduceEqDiff, Nat.reduceLT, Nat.reduceAdd, Nat.reduceSub, reduceIte, Kt_P, zcs, zct, zcu, zcv, zcw, zcx, zcy, zcz, zda, zdb, zdc, zdd, zde, zdf, zdg, zdh, zdi, zdj, zdk, reduceCtorEq, zdl, zdm, zdn, goInt, zdo, zdp, zdq, zdr, zds, zdt, zdu, zdv, zdw, zdx, zdy, zdz, zea, zeb, zec, zed, zdk, zee, zef, zeg, zeh, zei, zej, zek, zel, zem, zen, zeo, zep, zeq, zer, zes, zet, zeu, zev, zew, zex, zey, ya, yb, yc, yd, ye, yf, ts_int, ts_int64, ts_bool, ts_ints, ts_post, ts_posts, yg, yh, yi, yj, yk, yl, ym, ts_intsl, ts_int64s, ts_bools, ts_side, ts_sideb, ts_pints, ts_pbool, aPure, aLen, ywa, ywb, ywc, ywd, ywe, ywf, ywg, ywh, ywi, ywj, ywk, ywl, ywm, ywn, ywo, ts_string, ts_u8, ts_u64, ts_error, ts_bytes, ts_arr, ts_reader, ts_pbuilder, ts_builder, cv_64_8, cv_8_64, cv_64_i64, cv_i64_64, cv_64_int, cv_int_64, errV_0, hd, e0]
          rw [if_neg hne] at hE
          refine OpW_store_of (o := 1) hRd' ⟨rfl, rfl⟩ (by simp only [zaa, zab, zac, zad, zae, zaf, zag, zah, zai, zaj, zak, zal, zam, zan, zao, zap, zaq, zar, zas, zat, zau, zav, zaw, zax, zay, zaz, zba, aUn, zbb, zbc, zbd, zbe, zbf, zbg, zbh, zbi, zbj, zbk, zbl, zbm, zbn, flat, simple, zbo, zbp, zbq, zbr, zbs, zbt, zbu, zbv, zbw, zbx, zby, zbz, zca, zcb, zcc, zcd, zce, zcf, zcg, zch, zci, zcj, zck, zcl, zcm, zcn, zco, zcp, zcq, zcr, Nat.reduceEqDiff, Nat.reduceLT, Nat.reduceAdd, Nat.reduceSub, reduceIte, Kt_P, zcs, zct, zcu, zcv, zcw, zcx, zcy, zcz, zda, zdb, zdc, zdd, zde, zdf, zdg, zdh, zdi, zdj, zdk, reduceCtorEq, zdl, zdm, zdn, goInt, zdo, zdp, zdq, zdr, zds, zdt, zdu, zdv, zdw, zdx, zdy, zdz, zea, zeb, zec, zed, zdk, zee, zef, zeg, zeh, zei, zej, zek, zel, zem, zen, zeo, zep, zeq, zer, zes, zet, zeu, zev, zew, zex, zey, ya, yb, yc, yd, ye, yf, ts_int, ts_int64, ts_bool, ts_ints, ts_post, ts_posts, yg, yh, yi, yj, yk, yl, ym, ts_intsl, ts_int64s, ts_bools, ts_side, ts_sideb, ts_pints, ts_pbool, aPure, aLen, ywa, ywb, ywc, ywd, ywe, ywf, ywg, ywh, ywi, ywj, ywk, ywl, ywm, ywn, ywo, ts_string, ts_u8, ts_u64, ts_error, ts_bytes, ts_arr, ts_reader, ts_pbuilder, ts_builder, cv_64_8, cv_8_64, cv_64_i64, cv_i64_64, cv_64_int, cv_int_64, errV_0]) ts_error (Nat.le_refl _) rfl fun G2 hn2 hF2 hB2 => ?_
          simp only [zaa, zab, zac, zad, zae, zaf, zag, zah, zai, zaj, zak, zal, zam, zan, zao, zap, zaq, zar, zas, zat, zau, zav, zaw, zax, zay, zaz, zba, aUn, zbb, zbc, zbd, zbe, zbf, zbg, zbh, zbi, zbj, zbk, zbl, zbm, zbn, flat, simple, zbo, zbp, zbq, zbr, zbs, zbt, zbu, zbv, zbw, zbx, zby, zbz, zca, zcb, zcc, zcd, zce, zcf, zcg, zch, zci, zcj, zck, zcl, zcm, zcn, zco, zcp, zcq, zcr, Nat.reduceEqDiff, Nat.reduceLT, Nat.reduceAdd, Nat.reduceSub, reduceIte, Kt_P, zcs, zct, zcu, zcv, zcw, zcx, zcy, zcz, zda, zdb, zdc, zdd, zde, zdf, zdg, zdh, zdi, zdj, zdk, reduceCtorEq, zdl, zdm, zdn, goInt, zdo, zdp, zdq, zdr, zds, zdt, zdu, zdv, zdw, zdx, zdy, zdz, zea, zeb, zec, zed, zdk, zee, zef, zeg, zeh, zei, zej, zek, zel, zem, zen, zeo, zep, zeq, zer, zes, zet, zeu, zev, zew, zex, zey, ya, yb, yc, yd, ye, yf, ts_int, ts_int64, ts_bool, ts_ints, ts_post, ts_posts, yg, yh, yi, yj, yk, yl, ym, ts_intsl, ts_int64s, ts_bools, ts_side, ts_sideb, ts_pints, ts_pbool, aPure, aLen, ywa, ywb, ywc, ywd, ywe, ywf, ywg, ywh, ywi, ywj, ywk, ywl, ywm, ywn, ywo, ts_string, ts_u8, ts_u64, ts_error, ts_bytes, ts_arr, ts_reader, ts_pbuilder, ts_builder, cv_64_8, cv_8_64, cv_64_i64, cv_i64_64, cv_64_int, cv_int_64, errV_0]
          have hK : Keep base W G G2 := hF2.keep fun b hb h => by subst h; exact ⟨hbase, fun hw => (hWW _ hw).2.2.1 rfl⟩
          exact hQ G2 W s' 3 (hF.trans hF2 fun b _ h => .inr h) (fun b hb => ⟨by have := (hWo b hb).1; omega, (hWo b hb).2⟩) (.inr ⟨by rw [hE], hB2, i, hR.stab _ _ _ _ hIi hK, fun h => by cases h⟩)
      · simp only [zaa, zab, zac, zad, zae, zaf, zag, zah, zai, zaj, zak, zal, zam, zan, zao, zap, zaq, zar, zas, zat, zau, zav, zaw, zax, zay, zaz, zba, aUn, zbb, zbc, zbd, zbe, zbf, zbg, zbh, zbi, zbj, zbk, zbl, zbm, zbn, flat, simple, zbo, zbp, zbq, zbr, zbs, zbt, zbu, zbv, zbw, zbx, zby, zbz, zca, zcb, zcc, zcd, zce, zcf, zcg, zch, zci, zcj, zck, zcl, zcm, zcn, zco, zcp, zcq, zcr, Nat.reduceEqDiff, Nat.reduceLT, Nat.reduceAdd, Nat.reduceSub, reduceIte, Kt_P, zcs, zct, zcu, zcv, zcw, zcx, zcy, zcz, zda, zdb, zdc, zdd, zde, zdf, zdg, zdh, zdi, zdj, zdk, reduceCtorEq, zdl, zdm, zdn, goInt, zdo, zdp, zdq, zdr, zds, zdt, zdu, zdv, zdw, zdx, zdy, zdz, zea, zeb, zec, zed, zdk, zee, zef, zeg, zeh, zei, zej, zek, zel, zem, zen, zeo, zep, zeq, zer, zes, zet, zeu, zev, zew, zex, zey, ya, yb, yc, yd, ye, yf, ts_int, ts_int64, ts_bool, ts_ints, ts_post, ts_posts, yg, yh, yi, yj, yk, yl, ym, ts_intsl, ts_int64s, ts_bools, ts_side, ts_sideb, ts_pints, ts_pbool, aPure, aLen, ywa, ywb, ywc, ywd, ywe, ywf, ywg, ywh, ywi, ywj, ywk, ywl, ywm, ywn, ywo, ts_string, ts_u8, ts_u64, ts_error, ts_bytes, ts_arr, ts_reader, ts_pbuilder, ts_builder, cv_64_8, cv_8_64, cv_64_i64, cv_i64_64, cv_64_int, cv_int_64, errV_0, hk]
        rcases hcase with ⟨c1, c2, c3, c4⟩ | ⟨c1, _⟩
        · refine hQ G W s' k' hF hWo (.inr ⟨?_, hRd', i, hIi, fun h => absurd h c1⟩)
          unfold aF
          rw [if_neg (by rw [← hk0]; omega), c2, hk0]
        · exact absurd c1 hk
  · by_cases hk : k0 = 0
    · refine .inr ⟨hk, hk, ⟨by omega, by omega⟩, rfl, ?_, _, Nat.lt_succ_of_le ?_, rfl⟩
      · rw [hs0, List.length_drop]; omega
      · rw [hs0, List.length_drop]; omega
    · have hn0 : n = 0 := by rw [hn]; exact (rdU_err _ 0 0 (by rw [← hk0]; exact hk)).1
      exact .inl ⟨hk, rfl, hn0, rfl⟩
end Go.Sh
