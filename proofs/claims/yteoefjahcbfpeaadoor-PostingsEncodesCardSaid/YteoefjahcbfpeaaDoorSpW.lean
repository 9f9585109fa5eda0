/- What single functions do, part 19: a builder, and posts as bytes. -/
import Derived.Test.YteoefjahcbfpeaaDoorSpO
import Derived.Test.YteoefjahcbfpeaaDoorSpY
import Derived.Test.YteoefjahcbfpeaaDoorSkC
namespace Go.Sh
open Go Go.Proofs
set_option linter.unusedSimpArgs false
set_option linter.unusedVariables false
set_option maxRecDepth 4000
set_option maxHeartbeats 1000000

theorem fn_copyCheck : Kt.funcs 47 = some Tryd.f47 := by kernel_rfl
theorem fn_write : Kt.funcs 21 = some Tryd.f21 := by kernel_rfl
theorem fn_string : Kt.funcs 24 = some Tryd.f24 := by kernel_rfl
theorem fn_encode : Kt.funcs 7 = some Tryd.f7 := by kernel_rfl
theorem tz_builder : tzero Tryd.prog 53 = some (.agg #[.pointer none, .slice none 0 0]) := by kernel_rfl
theorem tz_u8 : tzero Tryd.prog 5 = some (.int .u8 0) := by kernel_rfl
theorem tb_u8 : tbytes Tryd.prog 5 = some 1 := by kernel_rfl
theorem noescape_prim (x : Value) (A : AHeap) : Kt.prim 68 #[x] A = some (x, A) := by
  show prims 68 #[x] A = some (x, A)
  rw [prims, if_pos rfl]
  rfl

/-- A builder in memory, with what was written. -/
def Bld (A : AHeap) (b : Nat) (bv : Value) (l : List UInt8) : Prop := ∃ ad, Box A b 53 [ad, bv] ∧ (ad = .pointer none ∨ ad = .pointer (some ⟨b, 0, none⟩)) ∧ Acc0 A 5 bv l.length (u8s l) ∧ ∀ c, blockOf bv c → c ≠ b
theorem Bld.fr {W : Nat → Prop} {A A' : AHeap} (h : Fr W A A') {b : Nat} {bv : Value} {l : List UInt8} (hb : Bld A b bv l) (h1 : ¬ W b) (h2 : ∀ c, blockOf bv c → ¬ W c) : Bld A' b bv l := by
  obtain ⟨ad, k1, k2, k3, k4⟩ := hb
  exact ⟨ad, h.box k1 h1, k2, k3.fr h h2, k4⟩
theorem Bld.ext {A A' : AHeap} (h : Ext A A') {b : Nat} {bv : Value} {l : List UInt8} (hb : Bld A b bv l) : Bld A' b bv l := hb.fr h (fun h => h) fun _ _ h => h
theorem Bld.lt {A : AHeap} {b : Nat} {bv : Value} {l : List UInt8} (hb : Bld A b bv l) : b < A.next ∧ ∀ c, blockOf bv c → c < A.next := by
  obtain ⟨ad, k1, k2, k3, k4⟩ := hb
  refine ⟨k1.1, fun c hc => ?_⟩
  rcases k3.2 with ⟨h1, _⟩ | ⟨b', h1, h2⟩
  · rw [h1] at hc; exact hc.elim
  · rw [h1] at hc; simp only [blockOf] at hc; subst hc; exact h2.1

theorem copyCheck_ok (A : AHeap) (b : Nat) (bv : Value) (l : List UInt8) (h : Bld A b bv l) (Q : Value → AHeap → Prop) (hq : ∀ A', Fr (fun j => j = b) A A' → A'.next = A.next → Bld A' b bv l → Q (.tuple #[]) A') :
    Cal Kt 47 #[.pointer (some ⟨b, 0, none⟩)] A Q := by
  refine Cal_of (nt := 20) (rs := []) fn_copyCheck rfl rfl rfl (Nat.le_of_ble_eq_true rfl) ?_
  obtain ⟨ad, h1, h2, h3, h4⟩ := h
  have l0 := h1.load (P := Tryd.prog) (o := 0) (t := 50) Tryd.underlying50 rfl rfl
  have nn := fun c a => aBin_nil_eql (P := Tryd.prog) (c := c) Tryd.underlying50 a
  have self := fun c => aBin_ptr_self (P := Tryd.prog) (c := c) Tryd.underlying50 ts_builder b
  rcases h2 with rfl | rfl
  · simp only [zaa,zab,zac,zad,zae,zaf,zag,zah,zai,zaj,zak,zal,zam,zan,zao,zap,zaq,zar,zas,zat,zau,zav,zaw,zax,zay,zaz,zba,aUn,zbb,zbc,zbd,zbe,zbf,zbg,zbh,zbi,zbj,zbk,zbl,zbm,zbn,flat,simple,zbo,zbp,zbq,zbr,zbs,zbt,zbu,zbv,zbw,zbx,zby,zbz,zca,zcb,zcc,zcd,zce,zcf,zcg,zch,zci,zcj,zck,zcl,zcm,zcn,zco,zcp,zcq,zcr,Nat.reduceEqDiff,Nat.reduceLT,Nat.reduceAdd,Nat.reduceSub,reduceIte,Kt_P,zcs,zct,zcu,zcv,zcw,zcx,zcy,zcz,zda,zdb,zdc,zdd,zde,zdf,zdg,zdh,zdi,zdj,zdk,reduceCtorEq,zdl,zdm,zdn,goInt,zdo,zdp,zdq,zdr,zds,zdt,zdu,zdv,zdw,zdx,zdy,zdz,zea,zeb,zec,zed,zdk,zee,zef,zeg,zeh,zei,zej,zek,zel,zem,zen,zeo,zep,zeq,zer,zes,zet,zeu,zev,zew,zex,zey,ya,yb,yc,yd,ye,yf,ts_int,ts_int64,ts_bool,ts_ints,ts_post,ts_posts,yg,yh,yi,yj,yk,yl,ym,ts_intsl,ts_int64s,ts_bools,ts_side,ts_sideb,ts_pints,ts_pbool,aPure,aLen,ywa,ywb,ywc,ywd,ywe,ywf,ywg,ywh,ywi,ywj,ywk,ywl,ywm,ywn,ywo,ts_string,ts_u8,ts_u64,ts_error,ts_bytes,ts_arr,ts_reader,ts_pbuilder,ts_builder,cv_64_8,cv_8_64,cv_64_i64,cv_i64_64,cv_64_int,cv_int_64,errV_0,l0,nn,zez,zfa,zfb,zfc,zbb,zbc]
    refine OpW_toUnsafe Tryd.underlying50 Tryd.underlying100 ts_builder rfl (by simp only [zaa,zab,zac,zad,zae,zaf,zag,zah,zai,zaj,zak,zal,zam,zan,zao,zap,zaq,zar,zas,zat,zau,zav,zaw,zax,zay,zaz,zba,aUn,zbb,zbc,zbd,zbe,zbf,zbg,zbh,zbi,zbj,zbk,zbl,zbm,zbn,flat,simple,zbo,zbp,zbq,zbr,zbs,zbt,zbu,zbv,zbw,zbx,zby,zbz,zca,zcb,zcc,zcd,zce,zcf,zcg,zch,zci,zcj,zck,zcl,zcm,zcn,zco,zcp,zcq,zcr,Nat.reduceEqDiff,Nat.reduceLT,Nat.reduceAdd,Nat.reduceSub,reduceIte,Kt_P,zcs,zct,zcu,zcv,zcw,zcx,zcy,zcz,zda,zdb,zdc,zdd,zde,zdf,zdg,zdh,zdi,zdj,zdk,reduceCtorEq,zdl,zdm,zdn,goInt,zdo,zdp,zdq,zdr,zds,zdt,zdu,zdv,zdw,zdx,zdy,zdz,zea,zeb,zec,zed,zdk,zee,zef,zeg,zeh,zei,zej,zek,zel,zem,zen,zeo,zep,zeq,zer,zes,zet,zeu,zev,zew,zex,zey,ya,yb,yc,yd,ye,yf,ts_int,ts_int64,ts_bool,ts_ints,ts_post,ts_posts,yg,yh,yi,yj,yk,yl,ym,ts_intsl,ts_int64s,ts_bools,ts_side,ts_sideb,ts_pints,ts_pbool,aPure,aLen,ywa,ywb,ywc,ywd,ywe,ywf,ywg,ywh,ywi,ywj,ywk,ywl,ywm,ywn,ywo,ts_string,ts_u8,ts_u64,ts_error,ts_bytes,ts_arr,ts_reader,ts_pbuilder,ts_builder,cv_64_8,cv_8_64,cv_64_i64,cv_i64_64,cv_64_int,cv_int_64,errV_0]) h1 (by simp) ?_
    simp only [zaa,zab,zac,zad,zae,zaf,zag,zah,zai,zaj,zak,zal,zam,zan,zao,zap,zaq,zar,zas,zat,zau,zav,zaw,zax,zay,zaz,zba,aUn,zbb,zbc,zbd,zbe,zbf,zbg,zbh,zbi,zbj,zbk,zbl,zbm,zbn,flat,simple,zbo,zbp,zbq,zbr,zbs,zbt,zbu,zbv,zbw,zbx,zby,zbz,zca,zcb,zcc,zcd,zce,zcf,zcg,zch,zci,zcj,zck,zcl,zcm,zcn,zco,zcp,zcq,zcr,Nat.reduceEqDiff,Nat.reduceLT,Nat.reduceAdd,Nat.reduceSub,reduceIte,Kt_P,zcs,zct,zcu,zcv,zcw,zcx,zcy,zcz,zda,zdb,zdc,zdd,zde,zdf,zdg,zdh,zdi,zdj,zdk,reduceCtorEq,zdl,zdm,zdn,goInt,zdo,zdp,zdq,zdr,zds,zdt,zdu,zdv,zdw,zdx,zdy,zdz,zea,zeb,zec,zed,zdk,zee,zef,zeg,zeh,zei,zej,zek,zel,zem,zen,zeo,zep,zeq,zer,zes,zet,zeu,zev,zew,zex,zey,ya,yb,yc,yd,ye,yf,ts_int,ts_int64,ts_bool,ts_ints,ts_post,ts_posts,yg,yh,yi,yj,yk,yl,ym,ts_intsl,ts_int64s,ts_bools,ts_side,ts_sideb,ts_pints,ts_pbool,aPure,aLen,ywa,ywb,ywc,ywd,ywe,ywf,ywg,ywh,ywi,ywj,ywk,ywl,ywm,ywn,ywo,ts_string,ts_u8,ts_u64,ts_error,ts_bytes,ts_arr,ts_reader,ts_pbuilder,ts_builder,cv_64_8,cv_8_64,cv_64_i64,cv_i64_64,cv_64_int,cv_int_64,errV_0]
    refine CalF_prim (noescape_prim _ _) ?_
    simp only [zaa,zab,zac,zad,zae,zaf,zag,zah,zai,zaj,zak,zal,zam,zan,zao,zap,zaq,zar,zas,zat,zau,zav,zaw,zax,zay,zaz,zba,aUn,zbb,zbc,zbd,zbe,zbf,zbg,zbh,zbi,zbj,zbk,zbl,zbm,zbn,flat,simple,zbo,zbp,zbq,zbr,zbs,zbt,zbu,zbv,zbw,zbx,zby,zbz,zca,zcb,zcc,zcd,zce,zcf,zcg,zch,zci,zcj,zck,zcl,zcm,zcn,zco,zcp,zcq,zcr,Nat.reduceEqDiff,Nat.reduceLT,Nat.reduceAdd,Nat.reduceSub,reduceIte,Kt_P,zcs,zct,zcu,zcv,zcw,zcx,zcy,zcz,zda,zdb,zdc,zdd,zde,zdf,zdg,zdh,zdi,zdj,zdk,reduceCtorEq,zdl,zdm,zdn,goInt,zdo,zdp,zdq,zdr,zds,zdt,zdu,zdv,zdw,zdx,zdy,zdz,zea,zeb,zec,zed,zdk,zee,zef,zeg,zeh,zei,zej,zek,zel,zem,zen,zeo,zep,zeq,zer,zes,zet,zeu,zev,zew,zex,zey,ya,yb,yc,yd,ye,yf,ts_int,ts_int64,ts_bool,ts_ints,ts_post,ts_posts,yg,yh,yi,yj,yk,yl,ym,ts_intsl,ts_int64s,ts_bools,ts_side,ts_sideb,ts_pints,ts_pbool,aPure,aLen,ywa,ywb,ywc,ywd,ywe,ywf,ywg,ywh,ywi,ywj,ywk,ywl,ywm,ywn,ywo,ts_string,ts_u8,ts_u64,ts_error,ts_bytes,ts_arr,ts_reader,ts_pbuilder,ts_builder,cv_64_8,cv_8_64,cv_64_i64,cv_i64_64,cv_64_int,cv_int_64,errV_0]
    refine OpW_fromUnsafe Tryd.underlying100 Tryd.underlying50 ts_builder rfl (by simp only [zaa,zab,zac,zad,zae,zaf,zag,zah,zai,zaj,zak,zal,zam,zan,zao,zap,zaq,zar,zas,zat,zau,zav,zaw,zax,zay,zaz,zba,aUn,zbb,zbc,zbd,zbe,zbf,zbg,zbh,zbi,zbj,zbk,zbl,zbm,zbn,flat,simple,zbo,zbp,zbq,zbr,zbs,zbt,zbu,zbv,zbw,zbx,zby,zbz,zca,zcb,zcc,zcd,zce,zcf,zcg,zch,zci,zcj,zck,zcl,zcm,zcn,zco,zcp,zcq,zcr,Nat.reduceEqDiff,Nat.reduceLT,Nat.reduceAdd,Nat.reduceSub,reduceIte,Kt_P,zcs,zct,zcu,zcv,zcw,zcx,zcy,zcz,zda,zdb,zdc,zdd,zde,zdf,zdg,zdh,zdi,zdj,zdk,reduceCtorEq,zdl,zdm,zdn,goInt,zdo,zdp,zdq,zdr,zds,zdt,zdu,zdv,zdw,zdx,zdy,zdz,zea,zeb,zec,zed,zdk,zee,zef,zeg,zeh,zei,zej,zek,zel,zem,zen,zeo,zep,zeq,zer,zes,zet,zeu,zev,zew,zex,zey,ya,yb,yc,yd,ye,yf,ts_int,ts_int64,ts_bool,ts_ints,ts_post,ts_posts,yg,yh,yi,yj,yk,yl,ym,ts_intsl,ts_int64s,ts_bools,ts_side,ts_sideb,ts_pints,ts_pbool,aPure,aLen,ywa,ywb,ywc,ywd,ywe,ywf,ywg,ywh,ywi,ywj,ywk,ywl,ywm,ywn,ywo,ts_string,ts_u8,ts_u64,ts_error,ts_bytes,ts_arr,ts_reader,ts_pbuilder,ts_builder,cv_64_8,cv_8_64,cv_64_i64,cv_i64_64,cv_64_int,cv_int_64,errV_0]) h1 rfl ?_
    simp only [zaa,zab,zac,zad,zae,zaf,zag,zah,zai,zaj,zak,zal,zam,zan,zao,zap,zaq,zar,zas,zat,zau,zav,zaw,zax,zay,zaz,zba,aUn,zbb,zbc,zbd,zbe,zbf,zbg,zbh,zbi,zbj,zbk,zbl,zbm,zbn,flat,simple,zbo,zbp,zbq,zbr,zbs,zbt,zbu,zbv,zbw,zbx,zby,zbz,zca,zcb,zcc,zcd,zce,zcf,zcg,zch,zci,zcj,zck,zcl,zcm,zcn,zco,zcp,zcq,zcr,Nat.reduceEqDiff,Nat.reduceLT,Nat.reduceAdd,Nat.reduceSub,reduceIte,Kt_P,zcs,zct,zcu,zcv,zcw,zcx,zcy,zcz,zda,zdb,zdc,zdd,zde,zdf,zdg,zdh,zdi,zdj,zdk,reduceCtorEq,zdl,zdm,zdn,goInt,zdo,zdp,zdq,zdr,zds,zdt,zdu,zdv,zdw,zdx,zdy,zdz,zea,zeb,zec,zed,zdk,zee,zef,zeg,zeh,zei,zej,zek,zel,zem,zen,zeo,zep,zeq,zer,zes,zet,zeu,zev,zew,zex,zey,ya,yb,yc,yd,ye,yf,ts_int,ts_int64,ts_bool,ts_ints,ts_post,ts_posts,yg,yh,yi,yj,yk,yl,ym,ts_intsl,ts_int64s,ts_bools,ts_side,ts_sideb,ts_pints,ts_pbool,aPure,aLen,ywa,ywb,ywc,ywd,ywe,ywf,ywg,ywh,ywi,ywj,ywk,ywl,ywm,ywn,ywo,ts_string,ts_u8,ts_u64,ts_error,ts_bytes,ts_arr,ts_reader,ts_pbuilder,ts_builder,cv_64_8,cv_8_64,cv_64_i64,cv_i64_64,cv_64_int,cv_int_64,errV_0]
    refine OpW_store_of (o := 0) h1 ⟨rfl, rfl⟩ (by simp only [zaa,zab,zac,zad,zae,zaf,zag,zah,zai,zaj,zak,zal,zam,zan,zao,zap,zaq,zar,zas,zat,zau,zav,zaw,zax,zay,zaz,zba,aUn,zbb,zbc,zbd,zbe,zbf,zbg,zbh,zbi,zbj,zbk,zbl,zbm,zbn,flat,simple,zbo,zbp,zbq,zbr,zbs,zbt,zbu,zbv,zbw,zbx,zby,zbz,zca,zcb,zcc,zcd,zce,zcf,zcg,zch,zci,zcj,zck,zcl,zcm,zcn,zco,zcp,zcq,zcr,Nat.reduceEqDiff,Nat.reduceLT,Nat.reduceAdd,Nat.reduceSub,reduceIte,Kt_P,zcs,zct,zcu,zcv,zcw,zcx,zcy,zcz,zda,zdb,zdc,zdd,zde,zdf,zdg,zdh,zdi,zdj,zdk,reduceCtorEq,zdl,zdm,zdn,goInt,zdo,zdp,zdq,zdr,zds,zdt,zdu,zdv,zdw,zdx,zdy,zdz,zea,zeb,zec,zed,zdk,zee,zef,zeg,zeh,zei,zej,zek,zel,zem,zen,zeo,zep,zeq,zer,zes,zet,zeu,zev,zew,zex,zey,ya,yb,yc,yd,ye,yf,ts_int,ts_int64,ts_bool,ts_ints,ts_post,ts_posts,yg,yh,yi,yj,yk,yl,ym,ts_intsl,ts_int64s,ts_bools,ts_side,ts_sideb,ts_pints,ts_pbool,aPure,aLen,ywa,ywb,ywc,ywd,ywe,ywf,ywg,ywh,ywi,ywj,ywk,ywl,ywm,ywn,ywo,ts_string,ts_u8,ts_u64,ts_error,ts_bytes,ts_arr,ts_reader,ts_pbuilder,ts_builder,cv_64_8,cv_8_64,cv_64_i64,cv_i64_64,cv_64_int,cv_int_64,errV_0]) ts_pbuilder (Nat.le_succ _) rfl fun A2 hn2 hF2 hB2 => ?_
    simp only [zaa,zab,zac,zad,zae,zaf,zag,zah,zai,zaj,zak,zal,zam,zan,zao,zap,zaq,zar,zas,zat,zau,zav,zaw,zax,zay,zaz,zba,aUn,zbb,zbc,zbd,zbe,zbf,zbg,zbh,zbi,zbj,zbk,zbl,zbm,zbn,flat,simple,zbo,zbp,zbq,zbr,zbs,zbt,zbu,zbv,zbw,zbx,zby,zbz,zca,zcb,zcc,zcd,zce,zcf,zcg,zch,zci,zcj,zck,zcl,zcm,zcn,zco,zcp,zcq,zcr,Nat.reduceEqDiff,Nat.reduceLT,Nat.reduceAdd,Nat.reduceSub,reduceIte,Kt_P,zcs,zct,zcu,zcv,zcw,zcx,zcy,zcz,zda,zdb,zdc,zdd,zde,zdf,zdg,zdh,zdi,zdj,zdk,reduceCtorEq,zdl,zdm,zdn,goInt,zdo,zdp,zdq,zdr,zds,zdt,zdu,zdv,zdw,zdx,zdy,zdz,zea,zeb,zec,zed,zdk,zee,zef,zeg,zeh,zei,zej,zek,zel,zem,zen,zeo,zep,zeq,zer,zes,zet,zeu,zev,zew,zex,zey,ya,yb,yc,yd,ye,yf,ts_int,ts_int64,ts_bool,ts_ints,ts_post,ts_posts,yg,yh,yi,yj,yk,yl,ym,ts_intsl,ts_int64s,ts_bools,ts_side,ts_sideb,ts_pints,ts_pbool,aPure,aLen,ywa,ywb,ywc,ywd,ywe,ywf,ywg,ywh,ywi,ywj,ywk,ywl,ywm,ywn,ywo,ts_string,ts_u8,ts_u64,ts_error,ts_bytes,ts_arr,ts_reader,ts_pbuilder,ts_builder,cv_64_8,cv_8_64,cv_64_i64,cv_i64_64,cv_64_int,cv_int_64,errV_0]
    exact hq A2 hF2 hn2 ⟨_, hB2, .inr rfl, h3.fr hF2 fun c hc hw => h4 c hc hw, h4⟩
  · simp only [zaa,zab,zac,zad,zae,zaf,zag,zah,zai,zaj,zak,zal,zam,zan,zao,zap,zaq,zar,zas,zat,zau,zav,zaw,zax,zay,zaz,zba,aUn,zbb,zbc,zbd,zbe,zbf,zbg,zbh,zbi,zbj,zbk,zbl,zbm,zbn,flat,simple,zbo,zbp,zbq,zbr,zbs,zbt,zbu,zbv,zbw,zbx,zby,zbz,zca,zcb,zcc,zcd,zce,zcf,zcg,zch,zci,zcj,zck,zcl,zcm,zcn,zco,zcp,zcq,zcr,Nat.reduceEqDiff,Nat.reduceLT,Nat.reduceAdd,Nat.reduceSub,reduceIte,Kt_P,zcs,zct,zcu,zcv,zcw,zcx,zcy,zcz,zda,zdb,zdc,zdd,zde,zdf,zdg,zdh,zdi,zdj,zdk,reduceCtorEq,zdl,zdm,zdn,goInt,zdo,zdp,zdq,zdr,zds,zdt,zdu,zdv,zdw,zdx,zdy,zdz,zea,zeb,zec,zed,zdk,zee,zef,zeg,zeh,zei,zej,zek,zel,zem,zen,zeo,zep,zeq,zer,zes,zet,zeu,zev,zew,zex,zey,ya,yb,yc,yd,ye,yf,ts_int,ts_int64,ts_bool,ts_ints,ts_post,ts_posts,yg,yh,yi,yj,yk,yl,ym,ts_intsl,ts_int64s,ts_bools,ts_side,ts_sideb,ts_pints,ts_pbool,aPure,aLen,ywa,ywb,ywc,ywd,ywe,ywf,ywg,ywh,ywi,ywj,ywk,ywl,ywm,ywn,ywo,ts_string,ts_u8,ts_u64,ts_error,ts_bytes,ts_arr,ts_reader,ts_pbuilder,ts_builder,cv_64_8,cv_8_64,cv_64_i64,cv_i64_64,cv_64_int,cv_int_64,errV_0,l0,nn,zez,zfa,zfb,zfc,zbb,zbc,self]
    exact hq A (Fr.refl _ _) rfl ⟨_, h1, .inr rfl, h3, h4⟩

theorem write_ok (A : AHeap) (b : Nat) (bv : Value) (s : ByteArray) (l : List UInt8) (h : Bld A b bv l) (hs : 0 < s.size) (hlen : l.length + s.size ≤ 1000000000) (Q : Value → AHeap → Prop)
    (hq : ∀ A' bv', Fr (fun j => j = b ∨ blockOf bv j) A A' → Bld A' b bv' (l ++ bl s) → (∀ c, blockOf bv' c → A.next ≤ c) → Q (.tuple #[.int .i64 s.size, .nilIface]) A') :
    Cal Kt 21 #[.pointer (some ⟨b, 0, none⟩), .string s] A Q := by
  refine Cal_of (nt := 19) (rs := [.tmp 4, .tmp 5]) fn_write rfl rfl rfl (Nat.le_of_ble_eq_true rfl) ?_
  simp only [zaa,zab,zac,zad,zae,zaf,zag,zah,zai,zaj,zak,zal,zam,zan,zao,zap,zaq,zar,zas,zat,zau,zav,zaw,zax,zay,zaz,zba,aUn,zbb,zbc,zbd,zbe,zbf,zbg,zbh,zbi,zbj,zbk,zbl,zbm,zbn,flat,simple,zbo,zbp,zbq,zbr,zbs,zbt,zbu,zbv,zbw,zbx,zby,zbz,zca,zcb,zcc,zcd,zce,zcf,zcg,zch,zci,zcj,zck,zcl,zcm,zcn,zco,zcp,zcq,zcr,Nat.reduceEqDiff,Nat.reduceLT,Nat.reduceAdd,Nat.reduceSub,reduceIte,Kt_P,zcs,zct,zcu,zcv,zcw,zcx,zcy,zcz,zda,zdb,zdc,zdd,zde,zdf,zdg,zdh,zdi,zdj,zdk,reduceCtorEq,zdl,zdm,zdn,goInt,zdo,zdp,zdq,zdr,zds,zdt,zdu,zdv,zdw,zdx,zdy,zdz,zea,zeb,zec,zed,zdk,zee,zef,zeg,zeh,zei,zej,zek,zel,zem,zen,zeo,zep,zeq,zer,zes,zet,zeu,zev,zew,zex,zey,ya,yb,yc,yd,ye,yf,ts_int,ts_int64,ts_bool,ts_ints,ts_post,ts_posts,yg,yh,yi,yj,yk,yl,ym,ts_intsl,ts_int64s,ts_bools,ts_side,ts_sideb,ts_pints,ts_pbool,aPure,aLen,ywa,ywb,ywc,ywd,ywe,ywf,ywg,ywh,ywi,ywj,ywk,ywl,ywm,ywn,ywo,ts_string,ts_u8,ts_u64,ts_error,ts_bytes,ts_arr,ts_reader,ts_pbuilder,ts_builder,cv_64_8,cv_8_64,cv_64_i64,cv_i64_64,cv_64_int,cv_int_64,errV_0]
  rw [CalF_cal (Kt_prim (by decide) _ _)]
  refine copyCheck_ok A b bv l h _ fun A1 hF1 hn1 hB1 => ?_
  obtain ⟨ad, h1, h2, h3, h4⟩ := hB1
  have l1 := h1.load (P := Tryd.prog) (o := 1) (t := 51) Tryd.underlying51 rfl rfl
  have hb1 := h1.1
  obtain ⟨ov, rfl⟩ := h3.form
  simp only [zaa,zab,zac,zad,zae,zaf,zag,zah,zai,zaj,zak,zal,zam,zan,zao,zap,zaq,zar,zas,zat,zau,zav,zaw,zax,zay,zaz,zba,aUn,zbb,zbc,zbd,zbe,zbf,zbg,zbh,zbi,zbj,zbk,zbl,zbm,zbn,flat,simple,zbo,zbp,zbq,zbr,zbs,zbt,zbu,zbv,zbw,zbx,zby,zbz,zca,zcb,zcc,zcd,zce,zcf,zcg,zch,zci,zcj,zck,zcl,zcm,zcn,zco,zcp,zcq,zcr,Nat.reduceEqDiff,Nat.reduceLT,Nat.reduceAdd,Nat.reduceSub,reduceIte,Kt_P,zcs,zct,zcu,zcv,zcw,zcx,zcy,zcz,zda,zdb,zdc,zdd,zde,zdf,zdg,zdh,zdi,zdj,zdk,reduceCtorEq,zdl,zdm,zdn,goInt,zdo,zdp,zdq,zdr,zds,zdt,zdu,zdv,zdw,zdx,zdy,zdz,zea,zeb,zec,zed,zdk,zee,zef,zeg,zeh,zei,zej,zek,zel,zem,zen,zeo,zep,zeq,zer,zes,zet,zeu,zev,zew,zex,zey,ya,yb,yc,yd,ye,yf,ts_int,ts_int64,ts_bool,ts_ints,ts_post,ts_posts,yg,yh,yi,yj,yk,yl,ym,ts_intsl,ts_int64s,ts_bools,ts_side,ts_sideb,ts_pints,ts_pbool,aPure,aLen,ywa,ywb,ywc,ywd,ywe,ywf,ywg,ywh,ywi,ywj,ywk,ywl,ywm,ywn,ywo,ts_string,ts_u8,ts_u64,ts_error,ts_bytes,ts_arr,ts_reader,ts_pbuilder,ts_builder,cv_64_8,cv_8_64,cv_64_i64,cv_i64_64,cv_64_int,cv_int_64,errV_0,l1]
  refine OpW_append_of0 (n := l.length) (k := s.size) (new := u8s (bl s)) ⟨rfl, rfl⟩ Tryd.underlying51 (by rw [Kt_P, Tryd.underlying9]; rfl) ts_u8 tb_u8 tz_u8 (by simp only [zaa,zab,zac,zad,zae,zaf,zag,zah,zai,zaj,zak,zal,zam,zan,zao,zap,zaq,zar,zas,zat,zau,zav,zaw,zax,zay,zaz,zba,aUn,zbb,zbc,zbd,zbe,zbf,zbg,zbh,zbi,zbj,zbk,zbl,zbm,zbn,flat,simple,zbo,zbp,zbq,zbr,zbs,zbt,zbu,zbv,zbw,zbx,zby,zbz,zca,zcb,zcc,zcd,zce,zcf,zcg,zch,zci,zcj,zck,zcl,zcm,zcn,zco,zcp,zcq,zcr,Nat.reduceEqDiff,Nat.reduceLT,Nat.reduceAdd,Nat.reduceSub,reduceIte,Kt_P,zcs,zct,zcu,zcv,zcw,zcx,zcy,zcz,zda,zdb,zdc,zdd,zde,zdf,zdg,zdh,zdi,zdj,zdk,reduceCtorEq,zdl,zdm,zdn,goInt,zdo,zdp,zdq,zdr,zds,zdt,zdu,zdv,zdw,zdx,zdy,zdz,zea,zeb,zec,zed,zdk,zee,zef,zeg,zeh,zei,zej,zek,zel,zem,zen,zeo,zep,zeq,zer,zes,zet,zeu,zev,zew,zex,zey,ya,yb,yc,yd,ye,yf,ts_int,ts_int64,ts_bool,ts_ints,ts_post,ts_posts,yg,yh,yi,yj,yk,yl,ym,ts_intsl,ts_int64s,ts_bools,ts_side,ts_sideb,ts_pints,ts_pbool,aPure,aLen,ywa,ywb,ywc,ywd,ywe,ywf,ywg,ywh,ywi,ywj,ywk,ywl,ywm,ywn,ywo,ts_string,ts_u8,ts_u64,ts_error,ts_bytes,ts_arr,ts_reader,ts_pbuilder,ts_builder,cv_64_8,cv_8_64,cv_64_i64,cv_i64_64,cv_64_int,cv_int_64,errV_0]; rfl) ⟨by rw [u8s_len, bl_len]; omega, u8s_one _⟩ hs
    ⟨rfl, by omega, by omega⟩ h3 fun q A2 hq2 hm2 hF2 hA2 => ?_
  simp only [zaa,zab,zac,zad,zae,zaf,zag,zah,zai,zaj,zak,zal,zam,zan,zao,zap,zaq,zar,zas,zat,zau,zav,zaw,zax,zay,zaz,zba,aUn,zbb,zbc,zbd,zbe,zbf,zbg,zbh,zbi,zbj,zbk,zbl,zbm,zbn,flat,simple,zbo,zbp,zbq,zbr,zbs,zbt,zbu,zbv,zbw,zbx,zby,zbz,zca,zcb,zcc,zcd,zce,zcf,zcg,zch,zci,zcj,zck,zcl,zcm,zcn,zco,zcp,zcq,zcr,Nat.reduceEqDiff,Nat.reduceLT,Nat.reduceAdd,Nat.reduceSub,reduceIte,Kt_P,zcs,zct,zcu,zcv,zcw,zcx,zcy,zcz,zda,zdb,zdc,zdd,zde,zdf,zdg,zdh,zdi,zdj,zdk,reduceCtorEq,zdl,zdm,zdn,goInt,zdo,zdp,zdq,zdr,zds,zdt,zdu,zdv,zdw,zdx,zdy,zdz,zea,zeb,zec,zed,zdk,zee,zef,zeg,zeh,zei,zej,zek,zel,zem,zen,zeo,zep,zeq,zer,zes,zet,zeu,zev,zew,zex,zey,ya,yb,yc,yd,ye,yf,ts_int,ts_int64,ts_bool,ts_ints,ts_post,ts_posts,yg,yh,yi,yj,yk,yl,ym,ts_intsl,ts_int64s,ts_bools,ts_side,ts_sideb,ts_pints,ts_pbool,aPure,aLen,ywa,ywb,ywc,ywd,ywe,ywf,ywg,ywh,ywi,ywj,ywk,ywl,ywm,ywn,ywo,ts_string,ts_u8,ts_u64,ts_error,ts_bytes,ts_arr,ts_reader,ts_pbuilder,ts_builder,cv_64_8,cv_8_64,cv_64_i64,cv_i64_64,cv_64_int,cv_int_64,errV_0] at hF2 hA2 ⊢
  have hB2 := hF2.box h1 fun h => h4 b h rfl
  refine OpW_store_of (o := 1) hB2 ⟨rfl, rfl⟩ (by simp only [zaa,zab,zac,zad,zae,zaf,zag,zah,zai,zaj,zak,zal,zam,zan,zao,zap,zaq,zar,zas,zat,zau,zav,zaw,zax,zay,zaz,zba,aUn,zbb,zbc,zbd,zbe,zbf,zbg,zbh,zbi,zbj,zbk,zbl,zbm,zbn,flat,simple,zbo,zbp,zbq,zbr,zbs,zbt,zbu,zbv,zbw,zbx,zby,zbz,zca,zcb,zcc,zcd,zce,zcf,zcg,zch,zci,zcj,zck,zcl,zcm,zcn,zco,zcp,zcq,zcr,Nat.reduceEqDiff,Nat.reduceLT,Nat.reduceAdd,Nat.reduceSub,reduceIte,Kt_P,zcs,zct,zcu,zcv,zcw,zcx,zcy,zcz,zda,zdb,zdc,zdd,zde,zdf,zdg,zdh,zdi,zdj,zdk,reduceCtorEq,zdl,zdm,zdn,goInt,zdo,zdp,zdq,zdr,zds,zdt,zdu,zdv,zdw,zdx,zdy,zdz,zea,zeb,zec,zed,zdk,zee,zef,zeg,zeh,zei,zej,zek,zel,zem,zen,zeo,zep,zeq,zer,zes,zet,zeu,zev,zew,zex,zey,ya,yb,yc,yd,ye,yf,ts_int,ts_int64,ts_bool,ts_ints,ts_post,ts_posts,yg,yh,yi,yj,yk,yl,ym,ts_intsl,ts_int64s,ts_bools,ts_side,ts_sideb,ts_pints,ts_pbool,aPure,aLen,ywa,ywb,ywc,ywd,ywe,ywf,ywg,ywh,ywi,ywj,ywk,ywl,ywm,ywn,ywo,ts_string,ts_u8,ts_u64,ts_error,ts_bytes,ts_arr,ts_reader,ts_pbuilder,ts_builder,cv_64_8,cv_8_64,cv_64_i64,cv_i64_64,cv_64_int,cv_int_64,errV_0]) ts_bytes (Nat.le_refl _) rfl fun A3 hm3 hF3 hB3 => ?_
  replace hB3 : Box A3 b 53 [ad, .slice (some ⟨q, 0, none⟩) (l.length + s.size) (l.length + s.size)] := hB3
  simp only [zaa,zab,zac,zad,zae,zaf,zag,zah,zai,zaj,zak,zal,zam,zan,zao,zap,zaq,zar,zas,zat,zau,zav,zaw,zax,zay,zaz,zba,aUn,zbb,zbc,zbd,zbe,zbf,zbg,zbh,zbi,zbj,zbk,zbl,zbm,zbn,flat,simple,zbo,zbp,zbq,zbr,zbs,zbt,zbu,zbv,zbw,zbx,zby,zbz,zca,zcb,zcc,zcd,zce,zcf,zcg,zch,zci,zcj,zck,zcl,zcm,zcn,zco,zcp,zcq,zcr,Nat.reduceEqDiff,Nat.reduceLT,Nat.reduceAdd,Nat.reduceSub,reduceIte,Kt_P,zcs,zct,zcu,zcv,zcw,zcx,zcy,zcz,zda,zdb,zdc,zdd,zde,zdf,zdg,zdh,zdi,zdj,zdk,reduceCtorEq,zdl,zdm,zdn,goInt,zdo,zdp,zdq,zdr,zds,zdt,zdu,zdv,zdw,zdx,zdy,zdz,zea,zeb,zec,zed,zdk,zee,zef,zeg,zeh,zei,zej,zek,zel,zem,zen,zeo,zep,zeq,zer,zes,zet,zeu,zev,zew,zex,zey,ya,yb,yc,yd,ye,yf,ts_int,ts_int64,ts_bool,ts_ints,ts_post,ts_posts,yg,yh,yi,yj,yk,yl,ym,ts_intsl,ts_int64s,ts_bools,ts_side,ts_sideb,ts_pints,ts_pbool,aPure,aLen,ywa,ywb,ywc,ywd,ywe,ywf,ywg,ywh,ywi,ywj,ywk,ywl,ywm,ywn,ywo,ts_string,ts_u8,ts_u64,ts_error,ts_bytes,ts_arr,ts_reader,ts_pbuilder,ts_builder,cv_64_8,cv_8_64,cv_64_i64,cv_i64_64,cv_64_int,cv_int_64,errV_0]
  have hl2 : l.length + s.size = (l ++ bl s).length := by rw [List.length_append, bl_len]
  have g1 : Fr (fun j => j = b ∨ blockOf (.slice ov l.length l.length) j) A A1 := hF1.weaken fun j _ h => .inl h
  have g2 : Fr (fun j => j = b ∨ blockOf (.slice ov l.length l.length) j) A1 A2 := hF2.weaken fun j _ h => .inr h
  have g3 : Fr (fun j => j = b ∨ blockOf (.slice ov l.length l.length) j) A2 A3 := hF3.weaken fun j _ h => .inl h
  refine hq A3 _ ((g1.trans g2 fun _ _ h => h).trans g3 fun _ _ h => h) ⟨ad, hB3, h2, ?_, ?_⟩ ?_
  · rw [← hl2, u8s_append]
    exact hA2.fr hF3 fun c hc hw => by simp only [blockOf] at hc; omega
  · intro c hc
    simp only [blockOf] at hc
    omega
  · intro c hc
    simp only [blockOf] at hc
    omega

theorem string_ok (A : AHeap) (b : Nat) (bv : Value) (l : List UInt8) (h : Bld A b bv l) (hl : 0 < l.length) (hlen : l.length ≤ 1000000000) (Q : Value → AHeap → Prop)
    (hq : ∀ s A', Fr (fun j => blockOf bv j) A A' → bl s = l → Q (.string s) A') : Cal Kt 24 #[.pointer (some ⟨b, 0, none⟩)] A Q := by
  refine Cal_of (nt := 14) (rs := [.tmp 2]) fn_string rfl rfl rfl (Nat.le_of_ble_eq_true rfl) ?_
  obtain ⟨ad, h1, h2, h3, h4⟩ := h
  have l1 := h1.load (P := Tryd.prog) (o := 1) (t := 51) Tryd.underlying51 rfl rfl
  obtain ⟨hlen2, hc⟩ := h3
  rcases hc with ⟨_, h0⟩ | ⟨c, rfl, hc⟩
  · omega
  obtain ⟨k, hk⟩ : ∃ k, l.length = k + 1 := ⟨l.length - 1, by omega⟩
  simp only [zaa,zab,zac,zad,zae,zaf,zag,zah,zai,zaj,zak,zal,zam,zan,zao,zap,zaq,zar,zas,zat,zau,zav,zaw,zax,zay,zaz,zba,aUn,zbb,zbc,zbd,zbe,zbf,zbg,zbh,zbi,zbj,zbk,zbl,zbm,zbn,flat,simple,zbo,zbp,zbq,zbr,zbs,zbt,zbu,zbv,zbw,zbx,zby,zbz,zca,zcb,zcc,zcd,zce,zcf,zcg,zch,zci,zcj,zck,zcl,zcm,zcn,zco,zcp,zcq,zcr,Nat.reduceEqDiff,Nat.reduceLT,Nat.reduceAdd,Nat.reduceSub,reduceIte,Kt_P,zcs,zct,zcu,zcv,zcw,zcx,zcy,zcz,zda,zdb,zdc,zdd,zde,zdf,zdg,zdh,zdi,zdj,zdk,reduceCtorEq,zdl,zdm,zdn,goInt,zdo,zdp,zdq,zdr,zds,zdt,zdu,zdv,zdw,zdx,zdy,zdz,zea,zeb,zec,zed,zdk,zee,zef,zeg,zeh,zei,zej,zek,zel,zem,zen,zeo,zep,zeq,zer,zes,zet,zeu,zev,zew,zex,zey,ya,yb,yc,yd,ye,yf,ts_int,ts_int64,ts_bool,ts_ints,ts_post,ts_posts,yg,yh,yi,yj,yk,yl,ym,ts_intsl,ts_int64s,ts_bools,ts_side,ts_sideb,ts_pints,ts_pbool,aPure,aLen,ywa,ywb,ywc,ywd,ywe,ywf,ywg,ywh,ywi,ywj,ywk,ywl,ywm,ywn,ywo,ts_string,ts_u8,ts_u64,ts_error,ts_bytes,ts_arr,ts_reader,ts_pbuilder,ts_builder,cv_64_8,cv_8_64,cv_64_i64,cv_i64_64,cv_64_int,cv_int_64,errV_0]
  rw [Cod_draw (by kernel_rfl) (by kernel_rfl)]
  simp only [zaa,zab,zac,zad,zae,zaf,zag,zah,zai,zaj,zak,zal,zam,zan,zao,zap,zaq,zar,zas,zat,zau,zav,zaw,zax,zay,zaz,zba,aUn,zbb,zbc,zbd,zbe,zbf,zbg,zbh,zbi,zbj,zbk,zbl,zbm,zbn,flat,simple,zbo,zbp,zbq,zbr,zbs,zbt,zbu,zbv,zbw,zbx,zby,zbz,zca,zcb,zcc,zcd,zce,zcf,zcg,zch,zci,zcj,zck,zcl,zcm,zcn,zco,zcp,zcq,zcr,Nat.reduceEqDiff,Nat.reduceLT,Nat.reduceAdd,Nat.reduceSub,reduceIte,Kt_P,zcs,zct,zcu,zcv,zcw,zcx,zcy,zcz,zda,zdb,zdc,zdd,zde,zdf,zdg,zdh,zdi,zdj,zdk,reduceCtorEq,zdl,zdm,zdn,goInt,zdo,zdp,zdq,zdr,zds,zdt,zdu,zdv,zdw,zdx,zdy,zdz,zea,zeb,zec,zed,zdk,zee,zef,zeg,zeh,zei,zej,zek,zel,zem,zen,zeo,zep,zeq,zer,zes,zet,zeu,zev,zew,zex,zey,ya,yb,yc,yd,ye,yf,ts_int,ts_int64,ts_bool,ts_ints,ts_post,ts_posts,yg,yh,yi,yj,yk,yl,ym,ts_intsl,ts_int64s,ts_bools,ts_side,ts_sideb,ts_pints,ts_pbool,aPure,aLen,ywa,ywb,ywc,ywd,ywe,ywf,ywg,ywh,ywi,ywj,ywk,ywl,ywm,ywn,ywo,ts_string,ts_u8,ts_u64,ts_error,ts_bytes,ts_arr,ts_reader,ts_pbuilder,ts_builder,cv_64_8,cv_8_64,cv_64_i64,cv_i64_64,cv_64_int,cv_int_64,errV_0,l1]
  refine OpW_sliceData (a := ⟨c, 0, none⟩) (n := l.length) (c := k) rfl (by simp only [zaa,zab,zac,zad,zae,zaf,zag,zah,zai,zaj,zak,zal,zam,zan,zao,zap,zaq,zar,zas,zat,zau,zav,zaw,zax,zay,zaz,zba,aUn,zbb,zbc,zbd,zbe,zbf,zbg,zbh,zbi,zbj,zbk,zbl,zbm,zbn,flat,simple,zbo,zbp,zbq,zbr,zbs,zbt,zbu,zbv,zbw,zbx,zby,zbz,zca,zcb,zcc,zcd,zce,zcf,zcg,zch,zci,zcj,zck,zcl,zcm,zcn,zco,zcp,zcq,zcr,Nat.reduceEqDiff,Nat.reduceLT,Nat.reduceAdd,Nat.reduceSub,reduceIte,Kt_P,zcs,zct,zcu,zcv,zcw,zcx,zcy,zcz,zda,zdb,zdc,zdd,zde,zdf,zdg,zdh,zdi,zdj,zdk,reduceCtorEq,zdl,zdm,zdn,goInt,zdo,zdp,zdq,zdr,zds,zdt,zdu,zdv,zdw,zdx,zdy,zdz,zea,zeb,zec,zed,zdk,zee,zef,zeg,zeh,zei,zej,zek,zel,zem,zen,zeo,zep,zeq,zer,zes,zet,zeu,zev,zew,zex,zey,ya,yb,yc,yd,ye,yf,ts_int,ts_int64,ts_bool,ts_ints,ts_post,ts_posts,yg,yh,yi,yj,yk,yl,ym,ts_intsl,ts_int64s,ts_bools,ts_side,ts_sideb,ts_pints,ts_pbool,aPure,aLen,ywa,ywb,ywc,ywd,ywe,ywf,ywg,ywh,ywi,ywj,ywk,ywl,ywm,ywn,ywo,ts_string,ts_u8,ts_u64,ts_error,ts_bytes,ts_arr,ts_reader,ts_pbuilder,ts_builder,cv_64_8,cv_8_64,cv_64_i64,cv_i64_64,cv_64_int,cv_int_64,errV_0,hk]) ?_
  simp only [zaa,zab,zac,zad,zae,zaf,zag,zah,zai,zaj,zak,zal,zam,zan,zao,zap,zaq,zar,zas,zat,zau,zav,zaw,zax,zay,zaz,zba,aUn,zbb,zbc,zbd,zbe,zbf,zbg,zbh,zbi,zbj,zbk,zbl,zbm,zbn,flat,simple,zbo,zbp,zbq,zbr,zbs,zbt,zbu,zbv,zbw,zbx,zby,zbz,zca,zcb,zcc,zcd,zce,zcf,zcg,zch,zci,zcj,zck,zcl,zcm,zcn,zco,zcp,zcq,zcr,Nat.reduceEqDiff,Nat.reduceLT,Nat.reduceAdd,Nat.reduceSub,reduceIte,Kt_P,zcs,zct,zcu,zcv,zcw,zcx,zcy,zcz,zda,zdb,zdc,zdd,zde,zdf,zdg,zdh,zdi,zdj,zdk,reduceCtorEq,zdl,zdm,zdn,goInt,zdo,zdp,zdq,zdr,zds,zdt,zdu,zdv,zdw,zdx,zdy,zdz,zea,zeb,zec,zed,zdk,zee,zef,zeg,zeh,zei,zej,zek,zel,zem,zen,zeo,zep,zeq,zer,zes,zet,zeu,zev,zew,zex,zey,ya,yb,yc,yd,ye,yf,ts_int,ts_int64,ts_bool,ts_ints,ts_post,ts_posts,yg,yh,yi,yj,yk,yl,ym,ts_intsl,ts_int64s,ts_bools,ts_side,ts_sideb,ts_pints,ts_pbool,aPure,aLen,ywa,ywb,ywc,ywd,ywe,ywf,ywg,ywh,ywi,ywj,ywk,ywl,ywm,ywn,ywo,ts_string,ts_u8,ts_u64,ts_error,ts_bytes,ts_arr,ts_reader,ts_pbuilder,ts_builder,cv_64_8,cv_8_64,cv_64_i64,cv_i64_64,cv_64_int,cv_int_64,errV_0,l1]
  refine OpW_strOf (l := l) (n := l.length) (b := c) Tryd.underlying81 ts_u8 ⟨rfl, rfl⟩ (by simp only [zaa,zab,zac,zad,zae,zaf,zag,zah,zai,zaj,zak,zal,zam,zan,zao,zap,zaq,zar,zas,zat,zau,zav,zaw,zax,zay,zaz,zba,aUn,zbb,zbc,zbd,zbe,zbf,zbg,zbh,zbi,zbj,zbk,zbl,zbm,zbn,flat,simple,zbo,zbp,zbq,zbr,zbs,zbt,zbu,zbv,zbw,zbx,zby,zbz,zca,zcb,zcc,zcd,zce,zcf,zcg,zch,zci,zcj,zck,zcl,zcm,zcn,zco,zcp,zcq,zcr,Nat.reduceEqDiff,Nat.reduceLT,Nat.reduceAdd,Nat.reduceSub,reduceIte,Kt_P,zcs,zct,zcu,zcv,zcw,zcx,zcy,zcz,zda,zdb,zdc,zdd,zde,zdf,zdg,zdh,zdi,zdj,zdk,reduceCtorEq,zdl,zdm,zdn,goInt,zdo,zdp,zdq,zdr,zds,zdt,zdu,zdv,zdw,zdx,zdy,zdz,zea,zeb,zec,zed,zdk,zee,zef,zeg,zeh,zei,zej,zek,zel,zem,zen,zeo,zep,zeq,zer,zes,zet,zeu,zev,zew,zex,zey,ya,yb,yc,yd,ye,yf,ts_int,ts_int64,ts_bool,ts_ints,ts_post,ts_posts,yg,yh,yi,yj,yk,yl,ym,ts_intsl,ts_int64s,ts_bools,ts_side,ts_sideb,ts_pints,ts_pbool,aPure,aLen,ywa,ywb,ywc,ywd,ywe,ywf,ywg,ywh,ywi,ywj,ywk,ywl,ywm,ywn,ywo,ts_string,ts_u8,ts_u64,ts_error,ts_bytes,ts_arr,ts_reader,ts_pbuilder,ts_builder,cv_64_8,cv_8_64,cv_64_i64,cv_i64_64,cv_64_int,cv_int_64,errV_0]) (by simp only [zaa,zab,zac,zad,zae,zaf,zag,zah,zai,zaj,zak,zal,zam,zan,zao,zap,zaq,zar,zas,zat,zau,zav,zaw,zax,zay,zaz,zba,aUn,zbb,zbc,zbd,zbe,zbf,zbg,zbh,zbi,zbj,zbk,zbl,zbm,zbn,flat,simple,zbo,zbp,zbq,zbr,zbs,zbt,zbu,zbv,zbw,zbx,zby,zbz,zca,zcb,zcc,zcd,zce,zcf,zcg,zch,zci,zcj,zck,zcl,zcm,zcn,zco,zcp,zcq,zcr,Nat.reduceEqDiff,Nat.reduceLT,Nat.reduceAdd,Nat.reduceSub,reduceIte,Kt_P,zcs,zct,zcu,zcv,zcw,zcx,zcy,zcz,zda,zdb,zdc,zdd,zde,zdf,zdg,zdh,zdi,zdj,zdk,reduceCtorEq,zdl,zdm,zdn,goInt,zdo,zdp,zdq,zdr,zds,zdt,zdu,zdv,zdw,zdx,zdy,zdz,zea,zeb,zec,zed,zdk,zee,zef,zeg,zeh,zei,zej,zek,zel,zem,zen,zeo,zep,zeq,zer,zes,zet,zeu,zev,zew,zex,zey,ya,yb,yc,yd,ye,yf,ts_int,ts_int64,ts_bool,ts_ints,ts_post,ts_posts,yg,yh,yi,yj,yk,yl,ym,ts_intsl,ts_int64s,ts_bools,ts_side,ts_sideb,ts_pints,ts_pbool,aPure,aLen,ywa,ywb,ywc,ywd,ywe,ywf,ywg,ywh,ywi,ywj,ywk,ywl,ywm,ywn,ywo,ts_string,ts_u8,ts_u64,ts_error,ts_bytes,ts_arr,ts_reader,ts_pbuilder,ts_builder,cv_64_8,cv_8_64,cv_64_i64,cv_i64_64,cv_64_int,cv_int_64,errV_0]) ⟨rfl, hl, by omega⟩ hc fun A2 hn2 hF2 => ?_
  simp only [zaa,zab,zac,zad,zae,zaf,zag,zah,zai,zaj,zak,zal,zam,zan,zao,zap,zaq,zar,zas,zat,zau,zav,zaw,zax,zay,zaz,zba,aUn,zbb,zbc,zbd,zbe,zbf,zbg,zbh,zbi,zbj,zbk,zbl,zbm,zbn,flat,simple,zbo,zbp,zbq,zbr,zbs,zbt,zbu,zbv,zbw,zbx,zby,zbz,zca,zcb,zcc,zcd,zce,zcf,zcg,zch,zci,zcj,zck,zcl,zcm,zcn,zco,zcp,zcq,zcr,Nat.reduceEqDiff,Nat.reduceLT,Nat.reduceAdd,Nat.reduceSub,reduceIte,Kt_P,zcs,zct,zcu,zcv,zcw,zcx,zcy,zcz,zda,zdb,zdc,zdd,zde,zdf,zdg,zdh,zdi,zdj,zdk,reduceCtorEq,zdl,zdm,zdn,goInt,zdo,zdp,zdq,zdr,zds,zdt,zdu,zdv,zdw,zdx,zdy,zdz,zea,zeb,zec,zed,zdk,zee,zef,zeg,zeh,zei,zej,zek,zel,zem,zen,zeo,zep,zeq,zer,zes,zet,zeu,zev,zew,zex,zey,ya,yb,yc,yd,ye,yf,ts_int,ts_int64,ts_bool,ts_ints,ts_post,ts_posts,yg,yh,yi,yj,yk,yl,ym,ts_intsl,ts_int64s,ts_bools,ts_side,ts_sideb,ts_pints,ts_pbool,aPure,aLen,ywa,ywb,ywc,ywd,ywe,ywf,ywg,ywh,ywi,ywj,ywk,ywl,ywm,ywn,ywo,ts_string,ts_u8,ts_u64,ts_error,ts_bytes,ts_arr,ts_reader,ts_pbuilder,ts_builder,cv_64_8,cv_8_64,cv_64_i64,cv_i64_64,cv_64_int,cv_int_64,errV_0]
  exact hq _ A2 (hF2.weaken fun j _ h => h.symm) (bl_mk l)

/-! ### Encode -/
def lastD (b : Bool) (d : Int) : List PostL → Bool × Int
  | [] => (b, d)
  | p :: l => lastD false p.1 l
theorem encD_snoc : ∀ (l : List PostL) (b : Bool) (d : Int) (p : PostL), encD b d (l ++ [p]) = encD b d l ++ (uintL (if (lastD b d l).1 then (zigN p.1).toNat else (p.1 - (lastD b d l).2).toNat) ++ (uintL p.2.length ++ encP 0 p.2))
  | [], b, d, p => by cases b <;> simp [encD, lastD]
  | q :: l, b, d, p => by
    rw [List.cons_append, encD, encD_snoc l false q.1 p, encD, lastD]
    simp only [List.append_assoc]
theorem lastD_snoc : ∀ (l : List PostL) (b : Bool) (d : Int) (p : PostL), lastD b d (l ++ [p]) = (false, p.1)
  | [], b, d, p => rfl
  | q :: l, b, d, p => by rw [List.cons_append, lastD, lastD_snoc l]
def lastP (a : Int) : List Int → Int
  | [] => a
  | x :: l => lastP x l
theorem encP_snoc : ∀ (l : List Int) (a x : Int), encP a (l ++ [x]) = encP a l ++ uintL (x - lastP a l).toNat
  | [], a, x => by simp [encP, lastP]
  | y :: l, a, x => by rw [List.cons_append, encP, encP_snoc l y x, encP, lastP, List.append_assoc]
theorem lastP_snoc : ∀ (l : List Int) (a x : Int), lastP a (l ++ [x]) = x
  | [], a, x => rfl
  | y :: l, a, x => by rw [List.cons_append, lastP, lastP_snoc l]
theorem encP_le : ∀ (l m : List Int) (a : Int), (encP a l).length ≤ (encP a (l ++ m)).length
  | [], m, a => by simp [encP]
  | x :: l, m, a => by
    rw [List.cons_append, encP, encP, List.length_append, List.length_append]
    have := encP_le l m x
    omega
theorem encD_le : ∀ (l m : List PostL) (b : Bool) (d : Int), (encD b d l).length ≤ (encD b d (l ++ m)).length
  | [], m, b, d => by simp [encD]
  | x :: l, m, b, d => by
    rw [List.cons_append, encD, encD]
    simp only [List.length_append]
    have := encD_le l m false x.1
    omega

theorem encode_ok (A : AHeap) (v : Value) (l : List PostL) (h : Posts A v l) (hw : wfs l) (hb : (encL l).length ≤ 1000000) (Q : Value → AHeap → Prop)
    (hq : ∀ s A', Ext A A' → bl s = encL l → Q (.tuple #[.string s, .nilIface]) A') : Cal Kt 7 #[v] A Q := by
  refine Cal_of (nt := 72) (rs := [.tmp 2, .tmp 3]) fn_encode rfl rfl rfl (Nat.le_of_ble_eq_true rfl) ?_
  simp only [zaa,zab,zac,zad,zae,zaf,zag,zah,zai,zaj,zak,zal,zam,zan,zao,zap,zaq,zar,zas,zat,zau,zav,zaw,zax,zay,zaz,zba,aUn,zbb,zbc,zbd,zbe,zbf,zbg,zbh,zbi,zbj,zbk,zbl,zbm,zbn,flat,simple,zbo,zbp,zbq,zbr,zbs,zbt,zbu,zbv,zbw,zbx,zby,zbz,zca,zcb,zcc,zcd,zce,zcf,zcg,zch,zci,zcj,zck,zcl,zcm,zcn,zco,zcp,zcq,zcr,Nat.reduceEqDiff,Nat.reduceLT,Nat.reduceAdd,Nat.reduceSub,reduceIte,Kt_P,zcs,zct,zcu,zcv,zcw,zcx,zcy,zcz,zda,zdb,zdc,zdd,zde,zdf,zdg,zdh,zdi,zdj,zdk,reduceCtorEq,zdl,zdm,zdn,goInt,zdo,zdp,zdq,zdr,zds,zdt,zdu,zdv,zdw,zdx,zdy,zdz,zea,zeb,zec,zed,zdk,zee,zef,zeg,zeh,zei,zej,zek,zel,zem,zen,zeo,zep,zeq,zer,zes,zet,zeu,zev,zew,zex,zey,ya,yb,yc,yd,ye,yf,ts_int,ts_int64,ts_bool,ts_ints,ts_post,ts_posts,yg,yh,yi,yj,yk,yl,ym,ts_intsl,ts_int64s,ts_bools,ts_side,ts_sideb,ts_pints,ts_pbool,aPure,aLen,ywa,ywb,ywc,ywd,ywe,ywf,ywg,ywh,ywi,ywj,ywk,ywl,ywm,ywn,ywo,ts_string,ts_u8,ts_u64,ts_error,ts_bytes,ts_arr,ts_reader,ts_pbuilder,ts_builder,cv_64_8,cv_8_64,cv_64_i64,cv_i64_64,cv_64_int,cv_int_64,errV_0]
  rw [CalF_cal (Kt_prim (by decide) _ _)]
  refine wrong_ok A v l h _ fun r A1 hE1 hr => ?_
  rcases hr with ⟨rfl, wa⟩ | ⟨i, rfl, hi, hbad, _⟩
  · simp only [zaa,zab,zac,zad,zae,zaf,zag,zah,zai,zaj,zak,zal,zam,zan,zao,zap,zaq,zar,zas,zat,zau,zav,zaw,zax,zay,zaz,zba,aUn,zbb,zbc,zbd,zbe,zbf,zbg,zbh,zbi,zbj,zbk,zbl,zbm,zbn,flat,simple,zbo,zbp,zbq,zbr,zbs,zbt,zbu,zbv,zbw,zbx,zby,zbz,zca,zcb,zcc,zcd,zce,zcf,zcg,zch,zci,zcj,zck,zcl,zcm,zcn,zco,zcp,zcq,zcr,Nat.reduceEqDiff,Nat.reduceLT,Nat.reduceAdd,Nat.reduceSub,reduceIte,Kt_P,zcs,zct,zcu,zcv,zcw,zcx,zcy,zcz,zda,zdb,zdc,zdd,zde,zdf,zdg,zdh,zdi,zdj,zdk,reduceCtorEq,zdl,zdm,zdn,goInt,zdo,zdp,zdq,zdr,zds,zdt,zdu,zdv,zdw,zdx,zdy,zdz,zea,zeb,zec,zed,zdk,zee,zef,zeg,zeh,zei,zej,zek,zel,zem,zen,zeo,zep,zeq,zer,zes,zet,zeu,zev,zew,zex,zey,ya,yb,yc,yd,ye,yf,ts_int,ts_int64,ts_bool,ts_ints,ts_post,ts_posts,yg,yh,yi,yj,yk,yl,ym,ts_intsl,ts_int64s,ts_bools,ts_side,ts_sideb,ts_pints,ts_pbool,aPure,aLen,ywa,ywb,ywc,ywd,ywe,ywf,ywg,ywh,ywi,ywj,ywk,ywl,ywm,ywn,ywo,ts_string,ts_u8,ts_u64,ts_error,ts_bytes,ts_arr,ts_reader,ts_pbuilder,ts_builder,cv_64_8,cv_8_64,cv_64_i64,cv_i64_64,cv_64_int,cv_int_64,errV_0,neg_nonneg]
    refine OpW_alloc_of ts_builder tz_builder rfl fun b5 A2 hb5 hm2 hE2 hB2 => ?_
    replace hB2 : Box A2 b5 53 [.pointer none, .slice none 0 0] := hB2
    have hBl2 : Bld A2 b5 (.slice none 0 0) [] := ⟨_, hB2, .inl rfl, ⟨rfl, .inl ⟨rfl, rfl⟩⟩, fun c hc => hc.elim⟩
    obtain ⟨o, c, hv, hlen, _⟩ := h.opened
    subst hv
    have hcl : IntKind.u64.wrap (l.length : Int) = (l.length : Int) := wrap_u64 (by omega)
    simp only [zaa,zab,zac,zad,zae,zaf,zag,zah,zai,zaj,zak,zal,zam,zan,zao,zap,zaq,zar,zas,zat,zau,zav,zaw,zax,zay,zaz,zba,aUn,zbb,zbc,zbd,zbe,zbf,zbg,zbh,zbi,zbj,zbk,zbl,zbm,zbn,flat,simple,zbo,zbp,zbq,zbr,zbs,zbt,zbu,zbv,zbw,zbx,zby,zbz,zca,zcb,zcc,zcd,zce,zcf,zcg,zch,zci,zcj,zck,zcl,zcm,zcn,zco,zcp,zcq,zcr,Nat.reduceEqDiff,Nat.reduceLT,Nat.reduceAdd,Nat.reduceSub,reduceIte,Kt_P,zcs,zct,zcu,zcv,zcw,zcx,zcy,zcz,zda,zdb,zdc,zdd,zde,zdf,zdg,zdh,zdi,zdj,zdk,reduceCtorEq,zdl,zdm,zdn,goInt,zdo,zdp,zdq,zdr,zds,zdt,zdu,zdv,zdw,zdx,zdy,zdz,zea,zeb,zec,zed,zdk,zee,zef,zeg,zeh,zei,zej,zek,zel,zem,zen,zeo,zep,zeq,zer,zes,zet,zeu,zev,zew,zex,zey,ya,yb,yc,yd,ye,yf,ts_int,ts_int64,ts_bool,ts_ints,ts_post,ts_posts,yg,yh,yi,yj,yk,yl,ym,ts_intsl,ts_int64s,ts_bools,ts_side,ts_sideb,ts_pints,ts_pbool,aPure,aLen,ywa,ywb,ywc,ywd,ywe,ywf,ywg,ywh,ywi,ywj,ywk,ywl,ywm,ywn,ywo,ts_string,ts_u8,ts_u64,ts_error,ts_bytes,ts_arr,ts_reader,ts_pbuilder,ts_builder,cv_64_8,cv_8_64,cv_64_i64,cv_i64_64,cv_64_int,cv_int_64,errV_0,hcl]
    rw [CalF_cal (Kt_prim (by decide) _ _)]
    refine uint_ok A2 l.length (by omega) _ fun s3 A3 hE3 hs3 => ?_
    simp only [zaa,zab,zac,zad,zae,zaf,zag,zah,zai,zaj,zak,zal,zam,zan,zao,zap,zaq,zar,zas,zat,zau,zav,zaw,zax,zay,zaz,zba,aUn,zbb,zbc,zbd,zbe,zbf,zbg,zbh,zbi,zbj,zbk,zbl,zbm,zbn,flat,simple,zbo,zbp,zbq,zbr,zbs,zbt,zbu,zbv,zbw,zbx,zby,zbz,zca,zcb,zcc,zcd,zce,zcf,zcg,zch,zci,zcj,zck,zcl,zcm,zcn,zco,zcp,zcq,zcr,Nat.reduceEqDiff,Nat.reduceLT,Nat.reduceAdd,Nat.reduceSub,reduceIte,Kt_P,zcs,zct,zcu,zcv,zcw,zcx,zcy,zcz,zda,zdb,zdc,zdd,zde,zdf,zdg,zdh,zdi,zdj,zdk,reduceCtorEq,zdl,zdm,zdn,goInt,zdo,zdp,zdq,zdr,zds,zdt,zdu,zdv,zdw,zdx,zdy,zdz,zea,zeb,zec,zed,zdk,zee,zef,zeg,zeh,zei,zej,zek,zel,zem,zen,zeo,zep,zeq,zer,zes,zet,zeu,zev,zew,zex,zey,ya,yb,yc,yd,ye,yf,ts_int,ts_int64,ts_bool,ts_ints,ts_post,ts_posts,yg,yh,yi,yj,yk,yl,ym,ts_intsl,ts_int64s,ts_bools,ts_side,ts_sideb,ts_pints,ts_pbool,aPure,aLen,ywa,ywb,ywc,ywd,ywe,ywf,ywg,ywh,ywi,ywj,ywk,ywl,ywm,ywn,ywo,ts_string,ts_u8,ts_u64,ts_error,ts_bytes,ts_arr,ts_reader,ts_pbuilder,ts_builder,cv_64_8,cv_8_64,cv_64_i64,cv_i64_64,cv_64_int,cv_int_64,errV_0]
    rw [CalF_cal (Kt_prim (by decide) _ _)]
    have hsz : ∀ s : ByteArray, ∀ n, bl s = uintL n → 0 < s.size := fun s n hs => by rw [bl_len, hs]; exact uintL_pos n
    have hbl : ∀ s : ByteArray, ∀ n, bl s = uintL n → s.size = (uintL n).length := fun s n hs => by rw [bl_len, hs]
    have hb' := hb
    unfold encL at hb'
    rw [List.length_append] at hb'
    refine write_ok A3 b5 _ s3 [] (hBl2.ext hE3) (hsz _ _ hs3) (by rw [hbl _ _ hs3]; simp; omega) _ fun A4 bv4 hF4 hB4 hv4 => ?_
    rw [List.nil_append, hs3] at hB4
    simp only [zaa,zab,zac,zad,zae,zaf,zag,zah,zai,zaj,zak,zal,zam,zan,zao,zap,zaq,zar,zas,zat,zau,zav,zaw,zax,zay,zaz,zba,aUn,zbb,zbc,zbd,zbe,zbf,zbg,zbh,zbi,zbj,zbk,zbl,zbm,zbn,flat,simple,zbo,zbp,zbq,zbr,zbs,zbt,zbu,zbv,zbw,zbx,zby,zbz,zca,zcb,zcc,zcd,zce,zcf,zcg,zch,zci,zcj,zck,zcl,zcm,zcn,zco,zcp,zcq,zcr,Nat.reduceEqDiff,Nat.reduceLT,Nat.reduceAdd,Nat.reduceSub,reduceIte,Kt_P,zcs,zct,zcu,zcv,zcw,zcx,zcy,zcz,zda,zdb,zdc,zdd,zde,zdf,zdg,zdh,zdi,zdj,zdk,reduceCtorEq,zdl,zdm,zdn,goInt,zdo,zdp,zdq,zdr,zds,zdt,zdu,zdv,zdw,zdx,zdy,zdz,zea,zeb,zec,zed,zdk,zee,zef,zeg,zeh,zei,zej,zek,zel,zem,zen,zeo,zep,zeq,zer,zes,zet,zeu,zev,zew,zex,zey,ya,yb,yc,yd,ye,yf,ts_int,ts_int64,ts_bool,ts_ints,ts_post,ts_posts,yg,yh,yi,yj,yk,yl,ym,ts_intsl,ts_int64s,ts_bools,ts_side,ts_sideb,ts_pints,ts_pbool,aPure,aLen,ywa,ywb,ywc,ywd,ywe,ywf,ywg,ywh,ywi,ywj,ywk,ywl,ywm,ywn,ywo,ts_string,ts_u8,ts_u64,ts_error,ts_bytes,ts_arr,ts_reader,ts_pbuilder,ts_builder,cv_64_8,cv_8_64,cv_64_i64,cv_i64_64,cv_64_int,cv_int_64,errV_0]
    have hA4 : Ext A A4 := Fr.trans ((hE1.trans hE2).trans hE3) hF4 fun b hb1 hc => hc.elim (fun hc => by have := hE1.next; omega) fun hc => hc.elim
    have hn1 := hE1.next
    refine Lop_inv (fun k e G => ∃ (i : Nat) (bv : Value), (e 0 = .slice o l.length c ∧ e 5 = .pointer (some ⟨b5, 0, none⟩) ∧ e 23 = .slice o l.length c ∧ e 24 = .int .i64 l.length ∧ e 25 = .int .i64 i) ∧ k = l.length - i ∧ i ≤ l.length ∧ Ext A G ∧ A2.next ≤ G.next ∧
      Bld G b5 bv (uintL l.length ++ encD true 0 (l.take i)) ∧ ∀ c, blockOf bv c → b5 < c) ?_ l.length _ _ ⟨0, bv4, by simp [put_at, argEnv], by simp, by simp, hA4, by have := hF4.next; have := hE3.next; omega, by simpa [encD] using hB4, fun c hc => by have := hv4 c hc; have := hE3.next; omega⟩
    rintro k e G ⟨i, bv, ⟨e0, e5, e23, e24, e25⟩, rfl, hi, hE, hGn, hB, hbv⟩
    simp only [zaa,zab,zac,zad,zae,zaf,zag,zah,zai,zaj,zak,zal,zam,zan,zao,zap,zaq,zar,zas,zat,zau,zav,zaw,zax,zay,zaz,zba,aUn,zbb,zbc,zbd,zbe,zbf,zbg,zbh,zbi,zbj,zbk,zbl,zbm,zbn,flat,simple,zbo,zbp,zbq,zbr,zbs,zbt,zbu,zbv,zbw,zbx,zby,zbz,zca,zcb,zcc,zcd,zce,zcf,zcg,zch,zci,zcj,zck,zcl,zcm,zcn,zco,zcp,zcq,zcr,Nat.reduceEqDiff,Nat.reduceLT,Nat.reduceAdd,Nat.reduceSub,reduceIte,Kt_P,zcs,zct,zcu,zcv,zcw,zcx,zcy,zcz,zda,zdb,zdc,zdd,zde,zdf,zdg,zdh,zdi,zdj,zdk,reduceCtorEq,zdl,zdm,zdn,goInt,zdo,zdp,zdq,zdr,zds,zdt,zdu,zdv,zdw,zdx,zdy,zdz,zea,zeb,zec,zed,zdk,zee,zef,zeg,zeh,zei,zej,zek,zel,zem,zen,zeo,zep,zeq,zer,zes,zet,zeu,zev,zew,zex,zey,ya,yb,yc,yd,ye,yf,ts_int,ts_int64,ts_bool,ts_ints,ts_post,ts_posts,yg,yh,yi,yj,yk,yl,ym,ts_intsl,ts_int64s,ts_bools,ts_side,ts_sideb,ts_pints,ts_pbool,aPure,aLen,ywa,ywb,ywc,ywd,ywe,ywf,ywg,ywh,ywi,ywj,ywk,ywl,ywm,ywn,ywo,ts_string,ts_u8,ts_u64,ts_error,ts_bytes,ts_arr,ts_reader,ts_pbuilder,ts_builder,cv_64_8,cv_8_64,cv_64_i64,cv_i64_64,cv_64_int,cv_int_64,errV_0,e24,e25]
    refine Way_of (fun hlt => ?_) (fun hge => ?_)
    · obtain ⟨o', c', ho', _, hdat⟩ := (h.fr hE).opened
      cases ho'
      obtain ⟨bb, u, hob, ld, _, _, hu, hdI⟩ := hdat i hlt
      subst hob
      have hhu := hu
      obtain ⟨ou, cu, hou, _, hinu, hlenu⟩ := hu.opened
      subst hou
      have hbl5 := hB.lt
      have hki := (wfs_iff l).1 hw
      simp only [zaa,zab,zac,zad,zae,zaf,zag,zah,zai,zaj,zak,zal,zam,zan,zao,zap,zaq,zar,zas,zat,zau,zav,zaw,zax,zay,zaz,zba,aUn,zbb,zbc,zbd,zbe,zbf,zbg,zbh,zbi,zbj,zbk,zbl,zbm,zbn,flat,simple,zbo,zbp,zbq,zbr,zbs,zbt,zbu,zbv,zbw,zbx,zby,zbz,zca,zcb,zcc,zcd,zce,zcf,zcg,zch,zci,zcj,zck,zcl,zcm,zcn,zco,zcp,zcq,zcr,Nat.reduceEqDiff,Nat.reduceLT,Nat.reduceAdd,Nat.reduceSub,reduceIte,Kt_P,zcs,zct,zcu,zcv,zcw,zcx,zcy,zcz,zda,zdb,zdc,zdd,zde,zdf,zdg,zdh,zdi,zdj,zdk,reduceCtorEq,zdl,zdm,zdn,goInt,zdo,zdp,zdq,zdr,zds,zdt,zdu,zdv,zdw,zdx,zdy,zdz,zea,zeb,zec,zed,zdk,zee,zef,zeg,zeh,zei,zej,zek,zel,zem,zen,zeo,zep,zeq,zer,zes,zet,zeu,zev,zew,zex,zey,ya,yb,yc,yd,ye,yf,ts_int,ts_int64,ts_bool,ts_ints,ts_post,ts_posts,yg,yh,yi,yj,yk,yl,ym,ts_intsl,ts_int64s,ts_bools,ts_side,ts_sideb,ts_pints,ts_pbool,aPure,aLen,ywa,ywb,ywc,ywd,ywe,ywf,ywg,ywh,ywi,ywj,ywk,ywl,ywm,ywn,ywo,ts_string,ts_u8,ts_u64,ts_error,ts_bytes,ts_arr,ts_reader,ts_pbuilder,ts_builder,cv_64_8,cv_8_64,cv_64_i64,cv_i64_64,cv_64_int,cv_int_64,errV_0,e23,e25,hlt,ld]
      refine OpW_alloc_of ts_post tz_post rfl fun b7 G1 hb7 hm1 hF1 hB7 => ?_
      simp only [zaa,zab,zac,zad,zae,zaf,zag,zah,zai,zaj,zak,zal,zam,zan,zao,zap,zaq,zar,zas,zat,zau,zav,zaw,zax,zay,zaz,zba,aUn,zbb,zbc,zbd,zbe,zbf,zbg,zbh,zbi,zbj,zbk,zbl,zbm,zbn,flat,simple,zbo,zbp,zbq,zbr,zbs,zbt,zbu,zbv,zbw,zbx,zby,zbz,zca,zcb,zcc,zcd,zce,zcf,zcg,zch,zci,zcj,zck,zcl,zcm,zcn,zco,zcp,zcq,zcr,Nat.reduceEqDiff,Nat.reduceLT,Nat.reduceAdd,Nat.reduceSub,reduceIte,Kt_P,zcs,zct,zcu,zcv,zcw,zcx,zcy,zcz,zda,zdb,zdc,zdd,zde,zdf,zdg,zdh,zdi,zdj,zdk,reduceCtorEq,zdl,zdm,zdn,goInt,zdo,zdp,zdq,zdr,zds,zdt,zdu,zdv,zdw,zdx,zdy,zdz,zea,zeb,zec,zed,zdk,zee,zef,zeg,zeh,zei,zej,zek,zel,zem,zen,zeo,zep,zeq,zer,zes,zet,zeu,zev,zew,zex,zey,ya,yb,yc,yd,ye,yf,ts_int,ts_int64,ts_bool,ts_ints,ts_post,ts_posts,yg,yh,yi,yj,yk,yl,ym,ts_intsl,ts_int64s,ts_bools,ts_side,ts_sideb,ts_pints,ts_pbool,aPure,aLen,ywa,ywb,ywc,ywd,ywe,ywf,ywg,ywh,ywi,ywj,ywk,ywl,ywm,ywn,ywo,ts_string,ts_u8,ts_u64,ts_error,ts_bytes,ts_arr,ts_reader,ts_pbuilder,ts_builder,cv_64_8,cv_8_64,cv_64_i64,cv_i64_64,cv_64_int,cv_int_64,errV_0]
      refine OpW_store_of (o := 0) hB7 ⟨rfl, rfl⟩ (by simp only [zaa,zab,zac,zad,zae,zaf,zag,zah,zai,zaj,zak,zal,zam,zan,zao,zap,zaq,zar,zas,zat,zau,zav,zaw,zax,zay,zaz,zba,aUn,zbb,zbc,zbd,zbe,zbf,zbg,zbh,zbi,zbj,zbk,zbl,zbm,zbn,flat,simple,zbo,zbp,zbq,zbr,zbs,zbt,zbu,zbv,zbw,zbx,zby,zbz,zca,zcb,zcc,zcd,zce,zcf,zcg,zch,zci,zcj,zck,zcl,zcm,zcn,zco,zcp,zcq,zcr,Nat.reduceEqDiff,Nat.reduceLT,Nat.reduceAdd,Nat.reduceSub,reduceIte,Kt_P,zcs,zct,zcu,zcv,zcw,zcx,zcy,zcz,zda,zdb,zdc,zdd,zde,zdf,zdg,zdh,zdi,zdj,zdk,reduceCtorEq,zdl,zdm,zdn,goInt,zdo,zdp,zdq,zdr,zds,zdt,zdu,zdv,zdw,zdx,zdy,zdz,zea,zeb,zec,zed,zdk,zee,zef,zeg,zeh,zei,zej,zek,zel,zem,zen,zeo,zep,zeq,zer,zes,zet,zeu,zev,zew,zex,zey,ya,yb,yc,yd,ye,yf,ts_int,ts_int64,ts_bool,ts_ints,ts_post,ts_posts,yg,yh,yi,yj,yk,yl,ym,ts_intsl,ts_int64s,ts_bools,ts_side,ts_sideb,ts_pints,ts_pbool,aPure,aLen,ywa,ywb,ywc,ywd,ywe,ywf,ywg,ywh,ywi,ywj,ywk,ywl,ywm,ywn,ywo,ts_string,ts_u8,ts_u64,ts_error,ts_bytes,ts_arr,ts_reader,ts_pbuilder,ts_builder,cv_64_8,cv_8_64,cv_64_i64,cv_i64_64,cv_64_int,cv_int_64,errV_0]) ts_post (Nat.le_refl _) rfl fun G2 hm2 hF2 hB8 => ?_
      replace hB8 : Box G2 b7 44 [.int .i64 l[i].1, .slice ou l[i].2.length cu] := hB8
      have ld7 := hB8.load (P := Tryd.prog) (o := 0) (t := 2) Tryd.underlying2 rfl rfl
      have hEG2 : Ext G G2 := Fr.trans hF1 hF2 fun b hb1 hc => by omega
      have hB2' : Bld G2 b5 bv _ := hB.ext hEG2
      have hi0 : ((i : Int) = 0) = (i = 0) := propext (by omega)
      have htk : l.take (i + 1) = l.take i ++ [l[i]] := List.take_succ_eq_append_getElem hlt
      have hsum : (encD true 0 (l.take (i + 1))).length ≤ (encD true 0 l).length := by
        have := encD_le (l.take (i + 1)) (l.drop (i + 1)) true 0
        rwa [List.take_append_drop] at this
      rw [htk, encD_snoc] at hsum
      simp only [List.length_append] at hsum
      have hnext : encD true 0 (l.take (i + 1)) = encD true 0 (l.take i) ++ (uintL (if (lastD true 0 (l.take i)).1 then (zigN l[i].1).toNat else (l[i].1 - (lastD true 0 (l.take i)).2).toNat) ++ (uintL l[i].2.length ++ encP 0 l[i].2)) := by rw [htk, encD_snoc]
      simp only [zaa,zab,zac,zad,zae,zaf,zag,zah,zai,zaj,zak,zal,zam,zan,zao,zap,zaq,zar,zas,zat,zau,zav,zaw,zax,zay,zaz,zba,aUn,zbb,zbc,zbd,zbe,zbf,zbg,zbh,zbi,zbj,zbk,zbl,zbm,zbn,flat,simple,zbo,zbp,zbq,zbr,zbs,zbt,zbu,zbv,zbw,zbx,zby,zbz,zca,zcb,zcc,zcd,zce,zcf,zcg,zch,zci,zcj,zck,zcl,zcm,zcn,zco,zcp,zcq,zcr,Nat.reduceEqDiff,Nat.reduceLT,Nat.reduceAdd,Nat.reduceSub,reduceIte,Kt_P,zcs,zct,zcu,zcv,zcw,zcx,zcy,zcz,zda,zdb,zdc,zdd,zde,zdf,zdg,zdh,zdi,zdj,zdk,reduceCtorEq,zdl,zdm,zdn,goInt,zdo,zdp,zdq,zdr,zds,zdt,zdu,zdv,zdw,zdx,zdy,zdz,zea,zeb,zec,zed,zdk,zee,zef,zeg,zeh,zei,zej,zek,zel,zem,zen,zeo,zep,zeq,zer,zes,zet,zeu,zev,zew,zex,zey,ya,yb,yc,yd,ye,yf,ts_int,ts_int64,ts_bool,ts_ints,ts_post,ts_posts,yg,yh,yi,yj,yk,yl,ym,ts_intsl,ts_int64s,ts_bools,ts_side,ts_sideb,ts_pints,ts_pbool,aPure,aLen,ywa,ywb,ywc,ywd,ywe,ywf,ywg,ywh,ywi,ywj,ywk,ywl,ywm,ywn,ywo,ts_string,ts_u8,ts_u64,ts_error,ts_bytes,ts_arr,ts_reader,ts_pbuilder,ts_builder,cv_64_8,cv_8_64,cv_64_i64,cv_i64_64,cv_64_int,cv_int_64,errV_0,hi0]
      refine Way_of (fun hz => ?_) (fun hz => ?_)
      · have hD : (if (lastD true 0 (l.take i)).1 then (zigN l[i].1).toNat else (l[i].1 - (lastD true 0 (l.take i)).2).toNat) = (zigN l[i].1).toNat := by
          subst hz
          simp [lastD]
        simp only [hD] at hsum hnext
        simp only [zaa,zab,zac,zad,zae,zaf,zag,zah,zai,zaj,zak,zal,zam,zan,zao,zap,zaq,zar,zas,zat,zau,zav,zaw,zax,zay,zaz,zba,aUn,zbb,zbc,zbd,zbe,zbf,zbg,zbh,zbi,zbj,zbk,zbl,zbm,zbn,flat,simple,zbo,zbp,zbq,zbr,zbs,zbt,zbu,zbv,zbw,zbx,zby,zbz,zca,zcb,zcc,zcd,zce,zcf,zcg,zch,zci,zcj,zck,zcl,zcm,zcn,zco,zcp,zcq,zcr,Nat.reduceEqDiff,Nat.reduceLT,Nat.reduceAdd,Nat.reduceSub,reduceIte,Kt_P,zcs,zct,zcu,zcv,zcw,zcx,zcy,zcz,zda,zdb,zdc,zdd,zde,zdf,zdg,zdh,zdi,zdj,zdk,reduceCtorEq,zdl,zdm,zdn,goInt,zdo,zdp,zdq,zdr,zds,zdt,zdu,zdv,zdw,zdx,zdy,zdz,zea,zeb,zec,zed,zdk,zee,zef,zeg,zeh,zei,zej,zek,zel,zem,zen,zeo,zep,zeq,zer,zes,zet,zeu,zev,zew,zex,zey,ya,yb,yc,yd,ye,yf,ts_int,ts_int64,ts_bool,ts_ints,ts_post,ts_posts,yg,yh,yi,yj,yk,yl,ym,ts_intsl,ts_int64s,ts_bools,ts_side,ts_sideb,ts_pints,ts_pbool,aPure,aLen,ywa,ywb,ywc,ywd,ywe,ywf,ywg,ywh,ywi,ywj,ywk,ywl,ywm,ywn,ywo,ts_string,ts_u8,ts_u64,ts_error,ts_bytes,ts_arr,ts_reader,ts_pbuilder,ts_builder,cv_64_8,cv_8_64,cv_64_i64,cv_i64_64,cv_64_int,cv_int_64,errV_0,ld7]
        rw [CalF_cal (Kt_prim (by decide) _ _)]
        refine int_ok G2 l[i].1 hdI _ fun s1 G3 hE3' hs1 => ?_
        simp only [zaa,zab,zac,zad,zae,zaf,zag,zah,zai,zaj,zak,zal,zam,zan,zao,zap,zaq,zar,zas,zat,zau,zav,zaw,zax,zay,zaz,zba,aUn,zbb,zbc,zbd,zbe,zbf,zbg,zbh,zbi,zbj,zbk,zbl,zbm,zbn,flat,simple,zbo,zbp,zbq,zbr,zbs,zbt,zbu,zbv,zbw,zbx,zby,zbz,zca,zcb,zcc,zcd,zce,zcf,zcg,zch,zci,zcj,zck,zcl,zcm,zcn,zco,zcp,zcq,zcr,Nat.reduceEqDiff,Nat.reduceLT,Nat.reduceAdd,Nat.reduceSub,reduceIte,Kt_P,zcs,zct,zcu,zcv,zcw,zcx,zcy,zcz,zda,zdb,zdc,zdd,zde,zdf,zdg,zdh,zdi,zdj,zdk,reduceCtorEq,zdl,zdm,zdn,goInt,zdo,zdp,zdq,zdr,zds,zdt,zdu,zdv,zdw,zdx,zdy,zdz,zea,zeb,zec,zed,zdk,zee,zef,zeg,zeh,zei,zej,zek,zel,zem,zen,zeo,zep,zeq,zer,zes,zet,zeu,zev,zew,zex,zey,ya,yb,yc,yd,ye,yf,ts_int,ts_int64,ts_bool,ts_ints,ts_post,ts_posts,yg,yh,yi,yj,yk,yl,ym,ts_intsl,ts_int64s,ts_bools,ts_side,ts_sideb,ts_pints,ts_pbool,aPure,aLen,ywa,ywb,ywc,ywd,ywe,ywf,ywg,ywh,ywi,ywj,ywk,ywl,ywm,ywn,ywo,ts_string,ts_u8,ts_u64,ts_error,ts_bytes,ts_arr,ts_reader,ts_pbuilder,ts_builder,cv_64_8,cv_8_64,cv_64_i64,cv_i64_64,cv_64_int,cv_int_64,errV_0,e5]
        rw [CalF_cal (Kt_prim (by decide) _ _)]
        refine write_ok G3 b5 bv s1 _ (hB2'.ext hE3') (hsz _ _ hs1) (by rw [hbl _ _ hs1, List.length_append]; omega) _ fun G4 bv4 hF4 hB4 hv4 => ?_
        rw [hs1] at hB4
        generalize (zigN l[i].1).toNat = D at hsum hnext hB4
        have g3 := hE3'.next
        have g4 := hF4.next
        have hB8' : Box G4 b7 44 [.int .i64 l[i].1, .slice ou l[i].2.length cu] := hF4.box (hE3'.box hB8 fun h => h) fun hc => hc.elim (fun h => by omega) fun h => by have := hbl5.2 _ h; omega
        have hEG4 : Ext A G4 := Fr.trans (hE.trans (hEG2.trans hE3')) hF4 fun b hb1 hc => hc.elim (fun h => by omega) fun h => by have := hbv _ h; omega
        have lu7 := hB8'.load (P := Tryd.prog) (o := 1) (t := 42) Tryd.underlying42 rfl rfl
        have hcl2 : IntKind.u64.wrap (l[i].2.length : Int) = (l[i].2.length : Int) := wrap_u64 (by omega)
        simp only [zaa,zab,zac,zad,zae,zaf,zag,zah,zai,zaj,zak,zal,zam,zan,zao,zap,zaq,zar,zas,zat,zau,zav,zaw,zax,zay,zaz,zba,aUn,zbb,zbc,zbd,zbe,zbf,zbg,zbh,zbi,zbj,zbk,zbl,zbm,zbn,flat,simple,zbo,zbp,zbq,zbr,zbs,zbt,zbu,zbv,zbw,zbx,zby,zbz,zca,zcb,zcc,zcd,zce,zcf,zcg,zch,zci,zcj,zck,zcl,zcm,zcn,zco,zcp,zcq,zcr,Nat.reduceEqDiff,Nat.reduceLT,Nat.reduceAdd,Nat.reduceSub,reduceIte,Kt_P,zcs,zct,zcu,zcv,zcw,zcx,zcy,zcz,zda,zdb,zdc,zdd,zde,zdf,zdg,zdh,zdi,zdj,zdk,reduceCtorEq,zdl,zdm,zdn,goInt,zdo,zdp,zdq,zdr,zds,zdt,zdu,zdv,zdw,zdx,zdy,zdz,zea,zeb,zec,zed,zdk,zee,zef,zeg,zeh,zei,zej,zek,zel,zem,zen,zeo,zep,zeq,zer,zes,zet,zeu,zev,zew,zex,zey,ya,yb,yc,yd,ye,yf,ts_int,ts_int64,ts_bool,ts_ints,ts_post,ts_posts,yg,yh,yi,yj,yk,yl,ym,ts_intsl,ts_int64s,ts_bools,ts_side,ts_sideb,ts_pints,ts_pbool,aPure,aLen,ywa,ywb,ywc,ywd,ywe,ywf,ywg,ywh,ywi,ywj,ywk,ywl,ywm,ywn,ywo,ts_string,ts_u8,ts_u64,ts_error,ts_bytes,ts_arr,ts_reader,ts_pbuilder,ts_builder,cv_64_8,cv_8_64,cv_64_i64,cv_i64_64,cv_64_int,cv_int_64,errV_0,e5,lu7,hcl2]
        rw [CalF_cal (Kt_prim (by decide) _ _)]
        refine uint_ok G4 l[i].2.length (by omega) _ fun s5 G5 hE5 hs5 => ?_
        simp only [zaa,zab,zac,zad,zae,zaf,zag,zah,zai,zaj,zak,zal,zam,zan,zao,zap,zaq,zar,zas,zat,zau,zav,zaw,zax,zay,zaz,zba,aUn,zbb,zbc,zbd,zbe,zbf,zbg,zbh,zbi,zbj,zbk,zbl,zbm,zbn,flat,simple,zbo,zbp,zbq,zbr,zbs,zbt,zbu,zbv,zbw,zbx,zby,zbz,zca,zcb,zcc,zcd,zce,zcf,zcg,zch,zci,zcj,zck,zcl,zcm,zcn,zco,zcp,zcq,zcr,Nat.reduceEqDiff,Nat.reduceLT,Nat.reduceAdd,Nat.reduceSub,reduceIte,Kt_P,zcs,zct,zcu,zcv,zcw,zcx,zcy,zcz,zda,zdb,zdc,zdd,zde,zdf,zdg,zdh,zdi,zdj,zdk,reduceCtorEq,zdl,zdm,zdn,goInt,zdo,zdp,zdq,zdr,zds,zdt,zdu,zdv,zdw,zdx,zdy,zdz,zea,zeb,zec,zed,zdk,zee,zef,zeg,zeh,zei,zej,zek,zel,zem,zen,zeo,zep,zeq,zer,zes,zet,zeu,zev,zew,zex,zey,ya,yb,yc,yd,ye,yf,ts_int,ts_int64,ts_bool,ts_ints,ts_post,ts_posts,yg,yh,yi,yj,yk,yl,ym,ts_intsl,ts_int64s,ts_bools,ts_side,ts_sideb,ts_pints,ts_pbool,aPure,aLen,ywa,ywb,ywc,ywd,ywe,ywf,ywg,ywh,ywi,ywj,ywk,ywl,ywm,ywn,ywo,ts_string,ts_u8,ts_u64,ts_error,ts_bytes,ts_arr,ts_reader,ts_pbuilder,ts_builder,cv_64_8,cv_8_64,cv_64_i64,cv_i64_64,cv_64_int,cv_int_64,errV_0,e5]
        rw [CalF_cal (Kt_prim (by decide) _ _)]
        refine write_ok G5 b5 bv4 s5 _ (hB4.ext hE5) (hsz _ _ hs5) (by rw [hbl _ _ hs5]; simp only [List.length_append]; omega) _ fun G6 bv6 hF6 hB6 hv6 => ?_
        rw [hs5] at hB6
        have g5 := hE5.next
        have g6 := hF6.next
        have hbl4 := hB4.lt
        have hB9 : Box G6 b7 44 [.int .i64 l[i].1, .slice ou l[i].2.length cu] := hF6.box (hE5.box hB8' fun h => h) fun hc => hc.elim (fun h => by omega) fun h => by have := hv4 _ h; omega
        have hEG6 : Ext A G6 := Fr.trans (hEG4.trans hE5) hF6 fun b hb1 hc => hc.elim (fun h => by omega) fun h => by have := hv4 _ h; omega
        have lu9 := hB9.load (P := Tryd.prog) (o := 1) (t := 42) Tryd.underlying42 rfl rfl
        have hpl := hki.2 _ (List.getElem_mem hlt)
        have hws : IntKind.i64.wrap ((i : Int) + 1) = ((i + 1 : Nat) : Int) := wrap_succ hlt hlen
        simp only [zaa,zab,zac,zad,zae,zaf,zag,zah,zai,zaj,zak,zal,zam,zan,zao,zap,zaq,zar,zas,zat,zau,zav,zaw,zax,zay,zaz,zba,aUn,zbb,zbc,zbd,zbe,zbf,zbg,zbh,zbi,zbj,zbk,zbl,zbm,zbn,flat,simple,zbo,zbp,zbq,zbr,zbs,zbt,zbu,zbv,zbw,zbx,zby,zbz,zca,zcb,zcc,zcd,zce,zcf,zcg,zch,zci,zcj,zck,zcl,zcm,zcn,zco,zcp,zcq,zcr,Nat.reduceEqDiff,Nat.reduceLT,Nat.reduceAdd,Nat.reduceSub,reduceIte,Kt_P,zcs,zct,zcu,zcv,zcw,zcx,zcy,zcz,zda,zdb,zdc,zdd,zde,zdf,zdg,zdh,zdi,zdj,zdk,reduceCtorEq,zdl,zdm,zdn,goInt,zdo,zdp,zdq,zdr,zds,zdt,zdu,zdv,zdw,zdx,zdy,zdz,zea,zeb,zec,zed,zdk,zee,zef,zeg,zeh,zei,zej,zek,zel,zem,zen,zeo,zep,zeq,zer,zes,zet,zeu,zev,zew,zex,zey,ya,yb,yc,yd,ye,yf,ts_int,ts_int64,ts_bool,ts_ints,ts_post,ts_posts,yg,yh,yi,yj,yk,yl,ym,ts_intsl,ts_int64s,ts_bools,ts_side,ts_sideb,ts_pints,ts_pbool,aPure,aLen,ywa,ywb,ywc,ywd,ywe,ywf,ywg,ywh,ywi,ywj,ywk,ywl,ywm,ywn,ywo,ts_string,ts_u8,ts_u64,ts_error,ts_bytes,ts_arr,ts_reader,ts_pbuilder,ts_builder,cv_64_8,cv_8_64,cv_64_i64,cv_i64_64,cv_64_int,cv_int_64,errV_0,lu9]
        refine Lop_inv (fun k e H => ∃ (j : Nat) (bv' : Value), (e 0 = .slice (some ⟨bb, 0, none⟩) l.length c ∧ e 5 = .pointer (some ⟨b5, 0, none⟩) ∧ e 8 = .int .i64 (lastP 0 (l[i].2.take j)) ∧ e 23 = .slice (some ⟨bb, 0, none⟩) l.length c ∧ e 24 = .int .i64 l.length ∧ e 25 = .int .i64 i ∧
            e 56 = .slice ou l[i].2.length cu ∧ e 57 = .int .i64 l[i].2.length ∧ e 58 = .int .i64 j) ∧ k = l[i].2.length - j ∧ j ≤ l[i].2.length ∧ Ext A H ∧ A2.next ≤ H.next ∧
            Bld H b5 bv' (((uintL l.length ++ encD true 0 (l.take i)) ++ uintL D) ++ uintL l[i].2.length ++ encP 0 (l[i].2.take j)) ∧ (∀ c, blockOf bv' c → b5 < c) ∧ ∀ b el cells, Dat G b el cells → Dat H b el cells) ?_ l[i].2.length _ _
          ⟨0, bv6, by simp [put_at, lastP, e0, e5, e23, e24, e25], by simp, by simp, hEG6, by omega, by simpa [encP] using hB6, fun c hc => by have := hv6 c hc; omega, fun b el cs hd => hF6.dat _ _ _ (hE5.dat _ _ _ (hF4.dat _ _ _ (hE3'.dat _ _ _ (hEG2.dat _ _ _ hd))))⟩
        clear e0 e5 e23 e24 e25
        rintro k e H ⟨j, bv', ⟨e0, e5, e8, e23, e24, e25, e56, e57, e58⟩, rfl, hj, hEH, hHn, hBH, hbvH, hDH⟩
        have hHlt := hBH.lt
        simp only [zaa,zab,zac,zad,zae,zaf,zag,zah,zai,zaj,zak,zal,zam,zan,zao,zap,zaq,zar,zas,zat,zau,zav,zaw,zax,zay,zaz,zba,aUn,zbb,zbc,zbd,zbe,zbf,zbg,zbh,zbi,zbj,zbk,zbl,zbm,zbn,flat,simple,zbo,zbp,zbq,zbr,zbs,zbt,zbu,zbv,zbw,zbx,zby,zbz,zca,zcb,zcc,zcd,zce,zcf,zcg,zch,zci,zcj,zck,zcl,zcm,zcn,zco,zcp,zcq,zcr,Nat.reduceEqDiff,Nat.reduceLT,Nat.reduceAdd,Nat.reduceSub,reduceIte,Kt_P,zcs,zct,zcu,zcv,zcw,zcx,zcy,zcz,zda,zdb,zdc,zdd,zde,zdf,zdg,zdh,zdi,zdj,zdk,reduceCtorEq,zdl,zdm,zdn,goInt,zdo,zdp,zdq,zdr,zds,zdt,zdu,zdv,zdw,zdx,zdy,zdz,zea,zeb,zec,zed,zdk,zee,zef,zeg,zeh,zei,zej,zek,zel,zem,zen,zeo,zep,zeq,zer,zes,zet,zeu,zev,zew,zex,zey,ya,yb,yc,yd,ye,yf,ts_int,ts_int64,ts_bool,ts_ints,ts_post,ts_posts,yg,yh,yi,yj,yk,yl,ym,ts_intsl,ts_int64s,ts_bools,ts_side,ts_sideb,ts_pints,ts_pbool,aPure,aLen,ywa,ywb,ywc,ywd,ywe,ywf,ywg,ywh,ywi,ywj,ywk,ywl,ywm,ywn,ywo,ts_string,ts_u8,ts_u64,ts_error,ts_bytes,ts_arr,ts_reader,ts_pbuilder,ts_builder,cv_64_8,cv_8_64,cv_64_i64,cv_i64_64,cv_64_int,cv_int_64,errV_0,e57,e58]
        refine Way_of (fun hjt => ?_) (fun hjge => ?_)
        · obtain ⟨ou', cu', hou', hdu, _, _⟩ := (hhu.dk hDH).opened
          cases hou'
          obtain ⟨bu, hbu, hdu'⟩ := hdu j hjt
          subst hbu
          have lp := hdu'.int hjt
          have hpj := hinu _ (List.getElem_mem hjt)
          have hr := (rises_iff _).1 hpl
          have hpj0 := hr.1 _ (List.getElem_mem hjt)
          have htkj : l[i].2.take (j + 1) = l[i].2.take j ++ [l[i].2[j]] := List.take_succ_eq_append_getElem hjt
          have hla : 0 ≤ lastP 0 (l[i].2.take j) ∧ lastP 0 (l[i].2.take j) ≤ l[i].2[j] := by
            rcases Nat.eq_zero_or_pos j with h0 | h0
            · subst h0; simp only [List.take_zero,lastP]; omega
            · have h1 : j - 1 < l[i].2.length := by omega
              have h2 : l[i].2.take j = l[i].2.take (j - 1) ++ [l[i].2[j - 1]] := by
                have := List.take_succ_eq_append_getElem (l := l[i].2) (i := j - 1) h1
                rwa [show j - 1 + 1 = j by omega] at this
              rw [h2, lastP_snoc]
              have h3 := (List.pairwise_iff_getElem.1 hr.2) (j - 1) j h1 hjt (by omega)
              have h4 := hr.1 _ (List.getElem_mem h1)
              omega
          have hence : encP 0 (l[i].2.take (j + 1)) = encP 0 (l[i].2.take j) ++ uintL (l[i].2[j] - lastP 0 (l[i].2.take j)).toNat := by rw [htkj, encP_snoc]
          have hlaj : lastP 0 (l[i].2.take (j + 1)) = l[i].2[j] := by rw [htkj, lastP_snoc]
          have hple : (encP 0 (l[i].2.take (j + 1))).length ≤ (encP 0 l[i].2).length := by
            have := encP_le (l[i].2.take (j + 1)) (l[i].2.drop (j + 1)) 0
            rwa [List.take_append_drop] at this
          rw [hence, List.length_append] at hple
          generalize hlad : lastP 0 (l[i].2.take j) = la at *
          obtain ⟨D2, hD2⟩ : ∃ D2, (l[i].2[j] - la).toNat = D2 := ⟨_, rfl⟩
          rw [hD2] at hple hence
          unfold inI64 at hpj
          have hsb : IntKind.i64.wrap (l[i].2[j] - la) = (D2 : Int) := by rw [wrap_i64 (by omega)]; omega
          have hcv : IntKind.u64.wrap (D2 : Int) = (D2 : Int) := wrap_u64 (by omega)
          have hjs := wrap_succ hjt hlenu
          simp only [zaa,zab,zac,zad,zae,zaf,zag,zah,zai,zaj,zak,zal,zam,zan,zao,zap,zaq,zar,zas,zat,zau,zav,zaw,zax,zay,zaz,zba,aUn,zbb,zbc,zbd,zbe,zbf,zbg,zbh,zbi,zbj,zbk,zbl,zbm,zbn,flat,simple,zbo,zbp,zbq,zbr,zbs,zbt,zbu,zbv,zbw,zbx,zby,zbz,zca,zcb,zcc,zcd,zce,zcf,zcg,zch,zci,zcj,zck,zcl,zcm,zcn,zco,zcp,zcq,zcr,Nat.reduceEqDiff,Nat.reduceLT,Nat.reduceAdd,Nat.reduceSub,reduceIte,Kt_P,zcs,zct,zcu,zcv,zcw,zcx,zcy,zcz,zda,zdb,zdc,zdd,zde,zdf,zdg,zdh,zdi,zdj,zdk,reduceCtorEq,zdl,zdm,zdn,goInt,zdo,zdp,zdq,zdr,zds,zdt,zdu,zdv,zdw,zdx,zdy,zdz,zea,zeb,zec,zed,zdk,zee,zef,zeg,zeh,zei,zej,zek,zel,zem,zen,zeo,zep,zeq,zer,zes,zet,zeu,zev,zew,zex,zey,ya,yb,yc,yd,ye,yf,ts_int,ts_int64,ts_bool,ts_ints,ts_post,ts_posts,yg,yh,yi,yj,yk,yl,ym,ts_intsl,ts_int64s,ts_bools,ts_side,ts_sideb,ts_pints,ts_pbool,aPure,aLen,ywa,ywb,ywc,ywd,ywe,ywf,ywg,ywh,ywi,ywj,ywk,ywl,ywm,ywn,ywo,ts_string,ts_u8,ts_u64,ts_error,ts_bytes,ts_arr,ts_reader,ts_pbuilder,ts_builder,cv_64_8,cv_8_64,cv_64_i64,cv_i64_64,cv_64_int,cv_int_64,errV_0,e5,e8,e56,e58,hjt,lp,hsb,hcv]
          rw [CalF_cal (Kt_prim (by decide) _ _)]
          refine uint_ok H D2 (by omega) _ fun s7 G7 hE7 hs7 => ?_
          simp only [zaa,zab,zac,zad,zae,zaf,zag,zah,zai,zaj,zak,zal,zam,zan,zao,zap,zaq,zar,zas,zat,zau,zav,zaw,zax,zay,zaz,zba,aUn,zbb,zbc,zbd,zbe,zbf,zbg,zbh,zbi,zbj,zbk,zbl,zbm,zbn,flat,simple,zbo,zbp,zbq,zbr,zbs,zbt,zbu,zbv,zbw,zbx,zby,zbz,zca,zcb,zcc,zcd,zce,zcf,zcg,zch,zci,zcj,zck,zcl,zcm,zcn,zco,zcp,zcq,zcr,Nat.reduceEqDiff,Nat.reduceLT,Nat.reduceAdd,Nat.reduceSub,reduceIte,Kt_P,zcs,zct,zcu,zcv,zcw,zcx,zcy,zcz,zda,zdb,zdc,zdd,zde,zdf,zdg,zdh,zdi,zdj,zdk,reduceCtorEq,zdl,zdm,zdn,goInt,zdo,zdp,zdq,zdr,zds,zdt,zdu,zdv,zdw,zdx,zdy,zdz,zea,zeb,zec,zed,zdk,zee,zef,zeg,zeh,zei,zej,zek,zel,zem,zen,zeo,zep,zeq,zer,zes,zet,zeu,zev,zew,zex,zey,ya,yb,yc,yd,ye,yf,ts_int,ts_int64,ts_bool,ts_ints,ts_post,ts_posts,yg,yh,yi,yj,yk,yl,ym,ts_intsl,ts_int64s,ts_bools,ts_side,ts_sideb,ts_pints,ts_pbool,aPure,aLen,ywa,ywb,ywc,ywd,ywe,ywf,ywg,ywh,ywi,ywj,ywk,ywl,ywm,ywn,ywo,ts_string,ts_u8,ts_u64,ts_error,ts_bytes,ts_arr,ts_reader,ts_pbuilder,ts_builder,cv_64_8,cv_8_64,cv_64_i64,cv_i64_64,cv_64_int,cv_int_64,errV_0,e5]
          rw [CalF_cal (Kt_prim (by decide) _ _)]
          refine write_ok G7 b5 bv' s7 _ (hBH.ext hE7) (hsz _ _ hs7) (by rw [hbl _ _ hs7]; simp only [List.length_append]; omega) _ fun G8 bv8 hF8 hB10 hv8 => ?_
          rw [hs7] at hB10
          have g7 := hE7.next
          have g8 := hF8.next
          simp only [zaa,zab,zac,zad,zae,zaf,zag,zah,zai,zaj,zak,zal,zam,zan,zao,zap,zaq,zar,zas,zat,zau,zav,zaw,zax,zay,zaz,zba,aUn,zbb,zbc,zbd,zbe,zbf,zbg,zbh,zbi,zbj,zbk,zbl,zbm,zbn,flat,simple,zbo,zbp,zbq,zbr,zbs,zbt,zbu,zbv,zbw,zbx,zby,zbz,zca,zcb,zcc,zcd,zce,zcf,zcg,zch,zci,zcj,zck,zcl,zcm,zcn,zco,zcp,zcq,zcr,Nat.reduceEqDiff,Nat.reduceLT,Nat.reduceAdd,Nat.reduceSub,reduceIte,Kt_P,zcs,zct,zcu,zcv,zcw,zcx,zcy,zcz,zda,zdb,zdc,zdd,zde,zdf,zdg,zdh,zdi,zdj,zdk,reduceCtorEq,zdl,zdm,zdn,goInt,zdo,zdp,zdq,zdr,zds,zdt,zdu,zdv,zdw,zdx,zdy,zdz,zea,zeb,zec,zed,zdk,zee,zef,zeg,zeh,zei,zej,zek,zel,zem,zen,zeo,zep,zeq,zer,zes,zet,zeu,zev,zew,zex,zey,ya,yb,yc,yd,ye,yf,ts_int,ts_int64,ts_bool,ts_ints,ts_post,ts_posts,yg,yh,yi,yj,yk,yl,ym,ts_intsl,ts_int64s,ts_bools,ts_side,ts_sideb,ts_pints,ts_pbool,aPure,aLen,ywa,ywb,ywc,ywd,ywe,ywf,ywg,ywh,ywi,ywj,ywk,ywl,ywm,ywn,ywo,ts_string,ts_u8,ts_u64,ts_error,ts_bytes,ts_arr,ts_reader,ts_pbuilder,ts_builder,cv_64_8,cv_8_64,cv_64_i64,cv_i64_64,cv_64_int,cv_int_64,errV_0,e58,hjs]
          refine ⟨l[i].2.length - (j + 1), by omega, j + 1, bv8, by simp [put_at, e0, e5, e23, e24, e25, e56, e57, hlaj], rfl, by omega, Fr.trans (hEH.trans hE7) hF8 fun b hb1 hc => hc.elim (fun h => by omega) fun h => by have := hbvH _ h; omega, by omega, ?_,
            fun c hc => by have := hv8 c hc; omega, fun b el cs hd => hF8.dat _ _ _ (hE7.dat _ _ _ (hDH _ _ _ hd))⟩
          rw [hence]
          simpa only [List.append_assoc] using hB10
        · have hj2 : j = l[i].2.length := by omega
          subst hj2
          rw [List.take_length] at hBH
          simp only [zaa,zab,zac,zad,zae,zaf,zag,zah,zai,zaj,zak,zal,zam,zan,zao,zap,zaq,zar,zas,zat,zau,zav,zaw,zax,zay,zaz,zba,aUn,zbb,zbc,zbd,zbe,zbf,zbg,zbh,zbi,zbj,zbk,zbl,zbm,zbn,flat,simple,zbo,zbp,zbq,zbr,zbs,zbt,zbu,zbv,zbw,zbx,zby,zbz,zca,zcb,zcc,zcd,zce,zcf,zcg,zch,zci,zcj,zck,zcl,zcm,zcn,zco,zcp,zcq,zcr,Nat.reduceEqDiff,Nat.reduceLT,Nat.reduceAdd,Nat.reduceSub,reduceIte,Kt_P,zcs,zct,zcu,zcv,zcw,zcx,zcy,zcz,zda,zdb,zdc,zdd,zde,zdf,zdg,zdh,zdi,zdj,zdk,reduceCtorEq,zdl,zdm,zdn,goInt,zdo,zdp,zdq,zdr,zds,zdt,zdu,zdv,zdw,zdx,zdy,zdz,zea,zeb,zec,zed,zdk,zee,zef,zeg,zeh,zei,zej,zek,zel,zem,zen,zeo,zep,zeq,zer,zes,zet,zeu,zev,zew,zex,zey,ya,yb,yc,yd,ye,yf,ts_int,ts_int64,ts_bool,ts_ints,ts_post,ts_posts,yg,yh,yi,yj,yk,yl,ym,ts_intsl,ts_int64s,ts_bools,ts_side,ts_sideb,ts_pints,ts_pbool,aPure,aLen,ywa,ywb,ywc,ywd,ywe,ywf,ywg,ywh,ywi,ywj,ywk,ywl,ywm,ywn,ywo,ts_string,ts_u8,ts_u64,ts_error,ts_bytes,ts_arr,ts_reader,ts_pbuilder,ts_builder,cv_64_8,cv_8_64,cv_64_i64,cv_i64_64,cv_64_int,cv_int_64,errV_0,e25,hws]
          refine ⟨l.length - (i + 1), by omega, i + 1, bv', by simp [put_at, e0, e5, e23, e24], rfl, by omega, hEH, hHn, ?_, hbvH⟩
          rw [hnext]
          simpa only [List.append_assoc] using hBH
      · have hD : (if (lastD true 0 (l.take i)).1 then (zigN l[i].1).toNat else (l[i].1 - (lastD true 0 (l.take i)).2).toNat) = (l[i].1 - l[i - 1].1).toNat := by
          have htk' : l.take i = l.take (i - 1) ++ [l[i - 1]] := by
            have := List.take_succ_eq_append_getElem (l := l) (i := i - 1) (by omega)
            rwa [show i - 1 + 1 = i by omega] at this
          rw [htk', lastD_snoc]
          simp
        simp only [hD] at hsum hnext
        have hi1 : i - 1 < l.length := by omega
        have hwi : IntKind.i64.wrap ((i : Int) - 1) = ((i - 1 : Nat) : Int) := by rw [wrap_i64 (by omega)]; omega
        obtain ⟨o2, c2, ho2, _, hdat2⟩ := ((h.fr hE).fr hEG2).opened
        cases ho2
        obtain ⟨bb2, u2, hbb2, _, ldp, _, _, hdI1⟩ := hdat2 (i - 1) hi1
        cases hbb2
        have hup := (List.pairwise_iff_getElem.1 hki.1) (i - 1) i hi1 hlt (by omega)
        obtain ⟨D, hDd⟩ : ∃ D, (l[i].1 - l[i - 1].1).toNat = D := ⟨_, rfl⟩
        rw [hDd] at hsum hnext
        have hdI' := hdI
        have hdI1' := hdI1
        unfold inI64 at hdI' hdI1'
        have hsubw : IntKind.u64.wrap (IntKind.u64.wrap l[i].1 - IntKind.u64.wrap l[i - 1].1) = (D : Int) := by rw [wrap_u64', wrap_u64', wrap_u64']; omega
        rw [Cod_draw (by kernel_rfl) (by kernel_rfl)]
        simp only [zaa,zab,zac,zad,zae,zaf,zag,zah,zai,zaj,zak,zal,zam,zan,zao,zap,zaq,zar,zas,zat,zau,zav,zaw,zax,zay,zaz,zba,aUn,zbb,zbc,zbd,zbe,zbf,zbg,zbh,zbi,zbj,zbk,zbl,zbm,zbn,flat,simple,zbo,zbp,zbq,zbr,zbs,zbt,zbu,zbv,zbw,zbx,zby,zbz,zca,zcb,zcc,zcd,zce,zcf,zcg,zch,zci,zcj,zck,zcl,zcm,zcn,zco,zcp,zcq,zcr,Nat.reduceEqDiff,Nat.reduceLT,Nat.reduceAdd,Nat.reduceSub,reduceIte,Kt_P,zcs,zct,zcu,zcv,zcw,zcx,zcy,zcz,zda,zdb,zdc,zdd,zde,zdf,zdg,zdh,zdi,zdj,zdk,reduceCtorEq,zdl,zdm,zdn,goInt,zdo,zdp,zdq,zdr,zds,zdt,zdu,zdv,zdw,zdx,zdy,zdz,zea,zeb,zec,zed,zdk,zee,zef,zeg,zeh,zei,zej,zek,zel,zem,zen,zeo,zep,zeq,zer,zes,zet,zeu,zev,zew,zex,zey,ya,yb,yc,yd,ye,yf,ts_int,ts_int64,ts_bool,ts_ints,ts_post,ts_posts,yg,yh,yi,yj,yk,yl,ym,ts_intsl,ts_int64s,ts_bools,ts_side,ts_sideb,ts_pints,ts_pbool,aPure,aLen,ywa,ywb,ywc,ywd,ywe,ywf,ywg,ywh,ywi,ywj,ywk,ywl,ywm,ywn,ywo,ts_string,ts_u8,ts_u64,ts_error,ts_bytes,ts_arr,ts_reader,ts_pbuilder,ts_builder,cv_64_8,cv_8_64,cv_64_i64,cv_i64_64,cv_64_int,cv_int_64,errV_0,ld7,e0,hwi,hi1,ldp,hsubw]
        rw [CalF_cal (Kt_prim (by decide) _ _)]
        refine uint_ok G2 D (by omega) _ fun s1 G3 hE3' hs1 => ?_
        simp only [zaa,zab,zac,zad,zae,zaf,zag,zah,zai,zaj,zak,zal,zam,zan,zao,zap,zaq,zar,zas,zat,zau,zav,zaw,zax,zay,zaz,zba,aUn,zbb,zbc,zbd,zbe,zbf,zbg,zbh,zbi,zbj,zbk,zbl,zbm,zbn,flat,simple,zbo,zbp,zbq,zbr,zbs,zbt,zbu,zbv,zbw,zbx,zby,zbz,zca,zcb,zcc,zcd,zce,zcf,zcg,zch,zci,zcj,zck,zcl,zcm,zcn,zco,zcp,zcq,zcr,Nat.reduceEqDiff,Nat.reduceLT,Nat.reduceAdd,Nat.reduceSub,reduceIte,Kt_P,zcs,zct,zcu,zcv,zcw,zcx,zcy,zcz,zda,zdb,zdc,zdd,zde,zdf,zdg,zdh,zdi,zdj,zdk,reduceCtorEq,zdl,zdm,zdn,goInt,zdo,zdp,zdq,zdr,zds,zdt,zdu,zdv,zdw,zdx,zdy,zdz,zea,zeb,zec,zed,zdk,zee,zef,zeg,zeh,zei,zej,zek,zel,zem,zen,zeo,zep,zeq,zer,zes,zet,zeu,zev,zew,zex,zey,ya,yb,yc,yd,ye,yf,ts_int,ts_int64,ts_bool,ts_ints,ts_post,ts_posts,yg,yh,yi,yj,yk,yl,ym,ts_intsl,ts_int64s,ts_bools,ts_side,ts_sideb,ts_pints,ts_pbool,aPure,aLen,ywa,ywb,ywc,ywd,ywe,ywf,ywg,ywh,ywi,ywj,ywk,ywl,ywm,ywn,ywo,ts_string,ts_u8,ts_u64,ts_error,ts_bytes,ts_arr,ts_reader,ts_pbuilder,ts_builder,cv_64_8,cv_8_64,cv_64_i64,cv_i64_64,cv_64_int,cv_int_64,errV_0,e5]
        rw [CalF_cal (Kt_prim (by decide) _ _)]
        refine write_ok G3 b5 bv s1 _ (hB2'.ext hE3') (hsz _ _ hs1) (by rw [hbl _ _ hs1, List.length_append]; omega) _ fun G4 bv4 hF4 hB4 hv4 => ?_
        rw [hs1] at hB4
        have g3 := hE3'.next
        have g4 := hF4.next
        have hB8' : Box G4 b7 44 [.int .i64 l[i].1, .slice ou l[i].2.length cu] := hF4.box (hE3'.box hB8 fun h => h) fun hc => hc.elim (fun h => by omega) fun h => by have := hbl5.2 _ h; omega
        have hEG4 : Ext A G4 := Fr.trans (hE.trans (hEG2.trans hE3')) hF4 fun b hb1 hc => hc.elim (fun h => by omega) fun h => by have := hbv _ h; omega
        have lu7 := hB8'.load (P := Tryd.prog) (o := 1) (t := 42) Tryd.underlying42 rfl rfl
        have hcl2 : IntKind.u64.wrap (l[i].2.length : Int) = (l[i].2.length : Int) := wrap_u64 (by omega)
        simp only [zaa,zab,zac,zad,zae,zaf,zag,zah,zai,zaj,zak,zal,zam,zan,zao,zap,zaq,zar,zas,zat,zau,zav,zaw,zax,zay,zaz,zba,aUn,zbb,zbc,zbd,zbe,zbf,zbg,zbh,zbi,zbj,zbk,zbl,zbm,zbn,flat,simple,zbo,zbp,zbq,zbr,zbs,zbt,zbu,zbv,zbw,zbx,zby,zbz,zca,zcb,zcc,zcd,zce,zcf,zcg,zch,zci,zcj,zck,zcl,zcm,zcn,zco,zcp,zcq,zcr,Nat.reduceEqDiff,Nat.reduceLT,Nat.reduceAdd,Nat.reduceSub,reduceIte,Kt_P,zcs,zct,zcu,zcv,zcw,zcx,zcy,zcz,zda,zdb,zdc,zdd,zde,zdf,zdg,zdh,zdi,zdj,zdk,reduceCtorEq,zdl,zdm,zdn,goInt,zdo,zdp,zdq,zdr,zds,zdt,zdu,zdv,zdw,zdx,zdy,zdz,zea,zeb,zec,zed,zdk,zee,zef,zeg,zeh,zei,zej,zek,zel,zem,zen,zeo,zep,zeq,zer,zes,zet,zeu,zev,zew,zex,zey,ya,yb,yc,yd,ye,yf,ts_int,ts_int64,ts_bool,ts_ints,ts_post,ts_posts,yg,yh,yi,yj,yk,yl,ym,ts_intsl,ts_int64s,ts_bools,ts_side,ts_sideb,ts_pints,ts_pbool,aPure,aLen,ywa,ywb,ywc,ywd,ywe,ywf,ywg,ywh,ywi,ywj,ywk,ywl,ywm,ywn,ywo,ts_string,ts_u8,ts_u64,ts_error,ts_bytes,ts_arr,ts_reader,ts_pbuilder,ts_builder,cv_64_8,cv_8_64,cv_64_i64,cv_i64_64,cv_64_int,cv_int_64,errV_0,e5,lu7,hcl2]
        rw [CalF_cal (Kt_prim (by decide) _ _)]
        refine uint_ok G4 l[i].2.length (by omega) _ fun s5 G5 hE5 hs5 => ?_
        simp only [zaa,zab,zac,zad,zae,zaf,zag,zah,zai,zaj,zak,zal,zam,zan,zao,zap,zaq,zar,zas,zat,zau,zav,zaw,zax,zay,zaz,zba,aUn,zbb,zbc,zbd,zbe,zbf,zbg,zbh,zbi,zbj,zbk,zbl,zbm,zbn,flat,simple,zbo,zbp,zbq,zbr,zbs,zbt,zbu,zbv,zbw,zbx,zby,zbz,zca,zcb,zcc,zcd,zce,zcf,zcg,zch,zci,zcj,zck,zcl,zcm,zcn,zco,zcp,zcq,zcr,Nat.reduceEqDiff,Nat.reduceLT,Nat.reduceAdd,Nat.reduceSub,reduceIte,Kt_P,zcs,zct,zcu,zcv,zcw,zcx,zcy,zcz,zda,zdb,zdc,zdd,zde,zdf,zdg,zdh,zdi,zdj,zdk,reduceCtorEq,zdl,zdm,zdn,goInt,zdo,zdp,zdq,zdr,zds,zdt,zdu,zdv,zdw,zdx,zdy,zdz,zea,zeb,zec,zed,zdk,zee,zef,zeg,zeh,zei,zej,zek,zel,zem,zen,zeo,zep,zeq,zer,zes,zet,zeu,zev,zew,zex,zey,ya,yb,yc,yd,ye,yf,ts_int,ts_int64,ts_bool,ts_ints,ts_post,ts_posts,yg,yh,yi,yj,yk,yl,ym,ts_intsl,ts_int64s,ts_bools,ts_side,ts_sideb,ts_pints,ts_pbool,aPure,aLen,ywa,ywb,ywc,ywd,ywe,ywf,ywg,ywh,ywi,ywj,ywk,ywl,ywm,ywn,ywo,ts_string,ts_u8,ts_u64,ts_error,ts_bytes,ts_arr,ts_reader,ts_pbuilder,ts_builder,cv_64_8,cv_8_64,cv_64_i64,cv_i64_64,cv_64_int,cv_int_64,errV_0,e5]
        rw [CalF_cal (Kt_prim (by decide) _ _)]
        refine write_ok G5 b5 bv4 s5 _ (hB4.ext hE5) (hsz _ _ hs5) (by rw [hbl _ _ hs5]; simp only [List.length_append]; omega) _ fun G6 bv6 hF6 hB6 hv6 => ?_
        rw [hs5] at hB6
        have g5 := hE5.next
        have g6 := hF6.next
        have hbl4 := hB4.lt
        have hB9 : Box G6 b7 44 [.int .i64 l[i].1, .slice ou l[i].2.length cu] := hF6.box (hE5.box hB8' fun h => h) fun hc => hc.elim (fun h => by omega) fun h => by have := hv4 _ h; omega
        have hEG6 : Ext A G6 := Fr.trans (hEG4.trans hE5) hF6 fun b hb1 hc => hc.elim (fun h => by omega) fun h => by have := hv4 _ h; omega
        have lu9 := hB9.load (P := Tryd.prog) (o := 1) (t := 42) Tryd.underlying42 rfl rfl
        have hpl := hki.2 _ (List.getElem_mem hlt)
        have hws : IntKind.i64.wrap ((i : Int) + 1) = ((i + 1 : Nat) : Int) := wrap_succ hlt hlen
        simp only [zaa,zab,zac,zad,zae,zaf,zag,zah,zai,zaj,zak,zal,zam,zan,zao,zap,zaq,zar,zas,zat,zau,zav,zaw,zax,zay,zaz,zba,aUn,zbb,zbc,zbd,zbe,zbf,zbg,zbh,zbi,zbj,zbk,zbl,zbm,zbn,flat,simple,zbo,zbp,zbq,zbr,zbs,zbt,zbu,zbv,zbw,zbx,zby,zbz,zca,zcb,zcc,zcd,zce,zcf,zcg,zch,zci,zcj,zck,zcl,zcm,zcn,zco,zcp,zcq,zcr,Nat.reduceEqDiff,Nat.reduceLT,Nat.reduceAdd,Nat.reduceSub,reduceIte,Kt_P,zcs,zct,zcu,zcv,zcw,zcx,zcy,zcz,zda,zdb,zdc,zdd,zde,zdf,zdg,zdh,zdi,zdj,zdk,reduceCtorEq,zdl,zdm,zdn,goInt,zdo,zdp,zdq,zdr,zds,zdt,zdu,zdv,zdw,zdx,zdy,zdz,zea,zeb,zec,zed,zdk,zee,zef,zeg,zeh,zei,zej,zek,zel,zem,zen,zeo,zep,zeq,zer,zes,zet,zeu,zev,zew,zex,zey,ya,yb,yc,yd,ye,yf,ts_int,ts_int64,ts_bool,ts_ints,ts_post,ts_posts,yg,yh,yi,yj,yk,yl,ym,ts_intsl,ts_int64s,ts_bools,ts_side,ts_sideb,ts_pints,ts_pbool,aPure,aLen,ywa,ywb,ywc,ywd,ywe,ywf,ywg,ywh,ywi,ywj,ywk,ywl,ywm,ywn,ywo,ts_string,ts_u8,ts_u64,ts_error,ts_bytes,ts_arr,ts_reader,ts_pbuilder,ts_builder,cv_64_8,cv_8_64,cv_64_i64,cv_i64_64,cv_64_int,cv_int_64,errV_0,lu9]
        refine Lop_inv (fun k e H => ∃ (j : Nat) (bv' : Value), (e 0 = .slice (some ⟨bb, 0, none⟩) l.length c ∧ e 5 = .pointer (some ⟨b5, 0, none⟩) ∧ e 8 = .int .i64 (lastP 0 (l[i].2.take j)) ∧ e 23 = .slice (some ⟨bb, 0, none⟩) l.length c ∧ e 24 = .int .i64 l.length ∧ e 25 = .int .i64 i ∧
            e 56 = .slice ou l[i].2.length cu ∧ e 57 = .int .i64 l[i].2.length ∧ e 58 = .int .i64 j) ∧ k = l[i].2.length - j ∧ j ≤ l[i].2.length ∧ Ext A H ∧ A2.next ≤ H.next ∧
            Bld H b5 bv' (((uintL l.length ++ encD true 0 (l.take i)) ++ uintL D) ++ uintL l[i].2.length ++ encP 0 (l[i].2.take j)) ∧ (∀ c, blockOf bv' c → b5 < c) ∧ ∀ b el cells, Dat G b el cells → Dat H b el cells) ?_ l[i].2.length _ _
          ⟨0, bv6, by simp [put_at, lastP, e0, e5, e23, e24, e25], by simp, by simp, hEG6, by omega, by simpa [encP] using hB6, fun c hc => by have := hv6 c hc; omega, fun b el cs hd => hF6.dat _ _ _ (hE5.dat _ _ _ (hF4.dat _ _ _ (hE3'.dat _ _ _ (hEG2.dat _ _ _ hd))))⟩
        clear e0 e5 e23 e24 e25
        rintro k e H ⟨j, bv', ⟨e0, e5, e8, e23, e24, e25, e56, e57, e58⟩, rfl, hj, hEH, hHn, hBH, hbvH, hDH⟩
        have hHlt := hBH.lt
        simp only [zaa,zab,zac,zad,zae,zaf,zag,zah,zai,zaj,zak,zal,zam,zan,zao,zap,zaq,zar,zas,zat,zau,zav,zaw,zax,zay,zaz,zba,aUn,zbb,zbc,zbd,zbe,zbf,zbg,zbh,zbi,zbj,zbk,zbl,zbm,zbn,flat,simple,zbo,zbp,zbq,zbr,zbs,zbt,zbu,zbv,zbw,zbx,zby,zbz,zca,zcb,zcc,zcd,zce,zcf,zcg,zch,zci,zcj,zck,zcl,zcm,zcn,zco,zcp,zcq,zcr,Nat.reduceEqDiff,Nat.reduceLT,Nat.reduceAdd,Nat.reduceSub,reduceIte,Kt_P,zcs,zct,zcu,zcv,zcw,zcx,zcy,zcz,zda,zdb,zdc,zdd,zde,zdf,zdg,zdh,zdi,zdj,zdk,reduceCtorEq,zdl,zdm,zdn,goInt,zdo,zdp,zdq,zdr,zds,zdt,zdu,zdv,zdw,zdx,zdy,zdz,zea,zeb,zec,zed,zdk,zee,zef,zeg,zeh,zei,zej,zek,zel,zem,zen,zeo,zep,zeq,zer,zes,zet,zeu,zev,zew,zex,zey,ya,yb,yc,yd,ye,yf,ts_int,ts_int64,ts_bool,ts_ints,ts_post,ts_posts,yg,yh,yi,yj,yk,yl,ym,ts_intsl,ts_int64s,ts_bools,ts_side,ts_sideb,ts_pints,ts_pbool,aPure,aLen,ywa,ywb,ywc,ywd,ywe,ywf,ywg,ywh,ywi,ywj,ywk,ywl,ywm,ywn,ywo,ts_string,ts_u8,ts_u64,ts_error,ts_bytes,ts_arr,ts_reader,ts_pbuilder,ts_builder,cv_64_8,cv_8_64,cv_64_i64,cv_i64_64,cv_64_int,cv_int_64,errV_0,e57,e58]
        refine Way_of (fun hjt => ?_) (fun hjge => ?_)
        · obtain ⟨ou', cu', hou', hdu, _, _⟩ := (hhu.dk hDH).opened
          cases hou'
          obtain ⟨bu, hbu, hdu'⟩ := hdu j hjt
          subst hbu
          have lp := hdu'.int hjt
          have hpj := hinu _ (List.getElem_mem hjt)
          have hr := (rises_iff _).1 hpl
          have hpj0 := hr.1 _ (List.getElem_mem hjt)
          have htkj : l[i].2.take (j + 1) = l[i].2.take j ++ [l[i].2[j]] := List.take_succ_eq_append_getElem hjt
          have hla : 0 ≤ lastP 0 (l[i].2.take j) ∧ lastP 0 (l[i].2.take j) ≤ l[i].2[j] := by
            rcases Nat.eq_zero_or_pos j with h0 | h0
            · subst h0; simp only [List.take_zero,lastP]; omega
            · have h1 : j - 1 < l[i].2.length := by omega
              have h2 : l[i].2.take j = l[i].2.take (j - 1) ++ [l[i].2[j - 1]] := by
                have := List.take_succ_eq_append_getElem (l := l[i].2) (i := j - 1) h1
                rwa [show j - 1 + 1 = j by omega] at this
              rw [h2, lastP_snoc]
              have h3 := (List.pairwise_iff_getElem.1 hr.2) (j - 1) j h1 hjt (by omega)
              have h4 := hr.1 _ (List.getElem_mem h1)
              omega
          have hence : encP 0 (l[i].2.take (j + 1)) = encP 0 (l[i].2.take j) ++ uintL (l[i].2[j] - lastP 0 (l[i].2.take j)).toNat := by rw [htkj, encP_snoc]
          have hlaj : lastP 0 (l[i].2.take (j + 1)) = l[i].2[j] := by rw [htkj, lastP_snoc]
          have hple : (encP 0 (l[i].2.take (j + 1))).length ≤ (encP 0 l[i].2).length := by
            have := encP_le (l[i].2.take (j + 1)) (l[i].2.drop (j + 1)) 0
            rwa [List.take_append_drop] at this
          rw [hence, List.length_append] at hple
          generalize hlad : lastP 0 (l[i].2.take j) = la at *
          obtain ⟨D2, hD2⟩ : ∃ D2, (l[i].2[j] - la).toNat = D2 := ⟨_, rfl⟩
          rw [hD2] at hple hence
          unfold inI64 at hpj
          have hsb : IntKind.i64.wrap (l[i].2[j] - la) = (D2 : Int) := by rw [wrap_i64 (by omega)]; omega
          have hcv : IntKind.u64.wrap (D2 : Int) = (D2 : Int) := wrap_u64 (by omega)
          have hjs := wrap_succ hjt hlenu
          simp only [zaa,zab,zac,zad,zae,zaf,zag,zah,zai,zaj,zak,zal,zam,zan,zao,zap,zaq,zar,zas,zat,zau,zav,zaw,zax,zay,zaz,zba,aUn,zbb,zbc,zbd,zbe,zbf,zbg,zbh,zbi,zbj,zbk,zbl,zbm,zbn,flat,simple,zbo,zbp,zbq,zbr,zbs,zbt,zbu,zbv,zbw,zbx,zby,zbz,zca,zcb,zcc,zcd,zce,zcf,zcg,zch,zci,zcj,zck,zcl,zcm,zcn,zco,zcp,zcq,zcr,Nat.reduceEqDiff,Nat.reduceLT,Nat.reduceAdd,Nat.reduceSub,reduceIte,Kt_P,zcs,zct,zcu,zcv,zcw,zcx,zcy,zcz,zda,zdb,zdc,zdd,zde,zdf,zdg,zdh,zdi,zdj,zdk,reduceCtorEq,zdl,zdm,zdn,goInt,zdo,zdp,zdq,zdr,zds,zdt,zdu,zdv,zdw,zdx,zdy,zdz,zea,zeb,zec,zed,zdk,zee,zef,zeg,zeh,zei,zej,zek,zel,zem,zen,zeo,zep,zeq,zer,zes,zet,zeu,zev,zew,zex,zey,ya,yb,yc,yd,ye,yf,ts_int,ts_int64,ts_bool,ts_ints,ts_post,ts_posts,yg,yh,yi,yj,yk,yl,ym,ts_intsl,ts_int64s,ts_bools,ts_side,ts_sideb,ts_pints,ts_pbool,aPure,aLen,ywa,ywb,ywc,ywd,ywe,ywf,ywg,ywh,ywi,ywj,ywk,ywl,ywm,ywn,ywo,ts_string,ts_u8,ts_u64,ts_error,ts_bytes,ts_arr,ts_reader,ts_pbuilder,ts_builder,cv_64_8,cv_8_64,cv_64_i64,cv_i64_64,cv_64_int,cv_int_64,errV_0,e5,e8,e56,e58,hjt,lp,hsb,hcv]
          rw [CalF_cal (Kt_prim (by decide) _ _)]
          refine uint_ok H D2 (by omega) _ fun s7 G7 hE7 hs7 => ?_
          simp only [zaa,zab,zac,zad,zae,zaf,zag,zah,zai,zaj,zak,zal,zam,zan,zao,zap,zaq,zar,zas,zat,zau,zav,zaw,zax,zay,zaz,zba,aUn,zbb,zbc,zbd,zbe,zbf,zbg,zbh,zbi,zbj,zbk,zbl,zbm,zbn,flat,simple,zbo,zbp,zbq,zbr,zbs,zbt,zbu,zbv,zbw,zbx,zby,zbz,zca,zcb,zcc,zcd,zce,zcf,zcg,zch,zci,zcj,zck,zcl,zcm,zcn,zco,zcp,zcq,zcr,Nat.reduceEqDiff,Nat.reduceLT,Nat.reduceAdd,Nat.reduceSub,reduceIte,Kt_P,zcs,zct,zcu,zcv,zcw,zcx,zcy,zcz,zda,zdb,zdc,zdd,zde,zdf,zdg,zdh,zdi,zdj,zdk,reduceCtorEq,zdl,zdm,zdn,goInt,zdo,zdp,zdq,zdr,zds,zdt,zdu,zdv,zdw,zdx,zdy,zdz,zea,zeb,zec,zed,zdk,zee,zef,zeg,zeh,zei,zej,zek,zel,zem,zen,zeo,zep,zeq,zer,zes,zet,zeu,zev,zew,zex,zey,ya,yb,yc,yd,ye,yf,ts_int,ts_int64,ts_bool,ts_ints,ts_post,ts_posts,yg,yh,yi,yj,yk,yl,ym,ts_intsl,ts_int64s,ts_bools,ts_side,ts_sideb,ts_pints,ts_pbool,aPure,aLen,ywa,ywb,ywc,ywd,ywe,ywf,ywg,ywh,ywi,ywj,ywk,ywl,ywm,ywn,ywo,ts_string,ts_u8,ts_u64,ts_error,ts_bytes,ts_arr,ts_reader,ts_pbuilder,ts_builder,cv_64_8,cv_8_64,cv_64_i64,cv_i64_64,cv_64_int,cv_int_64,errV_0,e5]
          rw [CalF_cal (Kt_prim (by decide) _ _)]
          refine write_ok G7 b5 bv' s7 _ (hBH.ext hE7) (hsz _ _ hs7) (by rw [hbl _ _ hs7]; simp only [List.length_append]; omega) _ fun G8 bv8 hF8 hB10 hv8 => ?_
          rw [hs7] at hB10
          have g7 := hE7.next
          have g8 := hF8.next
          simp only [zaa,zab,zac,zad,zae,zaf,zag,zah,zai,zaj,zak,zal,zam,zan,zao,zap,zaq,zar,zas,zat,zau,zav,zaw,zax,zay,zaz,zba,aUn,zbb,zbc,zbd,zbe,zbf,zbg,zbh,zbi,zbj,zbk,zbl,zbm,zbn,flat,simple,zbo,zbp,zbq,zbr,zbs,zbt,zbu,zbv,zbw,zbx,zby,zbz,zca,zcb,zcc,zcd,zce,zcf,zcg,zch,zci,zcj,zck,zcl,zcm,zcn,zco,zcp,zcq,zcr,Nat.reduceEqDiff,Nat.reduceLT,Nat.reduceAdd,Nat.reduceSub,reduceIte,Kt_P,zcs,zct,zcu,zcv,zcw,zcx,zcy,zcz,zda,zdb,zdc,zdd,zde,zdf,zdg,zdh,zdi,zdj,zdk,reduceCtorEq,zdl,zdm,zdn,goInt,zdo,zdp,zdq,zdr,zds,zdt,zdu,zdv,zdw,zdx,zdy,zdz,zea,zeb,zec,zed,zdk,zee,zef,zeg,zeh,zei,zej,zek,zel,zem,zen,zeo,zep,zeq,zer,zes,zet,zeu,zev,zew,zex,zey,ya,yb,yc,yd,ye,yf,ts_int,ts_int64,ts_bool,ts_ints,ts_post,ts_posts,yg,yh,yi,yj,yk,yl,ym,ts_intsl,ts_int64s,ts_bools,ts_side,ts_sideb,ts_pints,ts_pbool,aPure,aLen,ywa,ywb,ywc,ywd,ywe,ywf,ywg,ywh,ywi,ywj,ywk,ywl,ywm,ywn,ywo,ts_string,ts_u8,ts_u64,ts_error,ts_bytes,ts_arr,ts_reader,ts_pbuilder,ts_builder,cv_64_8,cv_8_64,cv_64_i64,cv_i64_64,cv_64_int,cv_int_64,errV_0,e58,hjs]
          refine ⟨l[i].2.length - (j + 1), by omega, j + 1, bv8, by simp [put_at, e0, e5, e23, e24, e25, e56, e57, hlaj], rfl, by omega, Fr.trans (hEH.trans hE7) hF8 fun b hb1 hc => hc.elim (fun h => by omega) fun h => by have := hbvH _ h; omega, by omega, ?_,
            fun c hc => by have := hv8 c hc; omega, fun b el cs hd => hF8.dat _ _ _ (hE7.dat _ _ _ (hDH _ _ _ hd))⟩
          rw [hence]
          simpa only [List.append_assoc] using hB10
        · have hj2 : j = l[i].2.length := by omega
          subst hj2
          rw [List.take_length] at hBH
          simp only [zaa,zab,zac,zad,zae,zaf,zag,zah,zai,zaj,zak,zal,zam,zan,zao,zap,zaq,zar,zas,zat,zau,zav,zaw,zax,zay,zaz,zba,aUn,zbb,zbc,zbd,zbe,zbf,zbg,zbh,zbi,zbj,zbk,zbl,zbm,zbn,flat,simple,zbo,zbp,zbq,zbr,zbs,zbt,zbu,zbv,zbw,zbx,zby,zbz,zca,zcb,zcc,zcd,zce,zcf,zcg,zch,zci,zcj,zck,zcl,zcm,zcn,zco,zcp,zcq,zcr,Nat.reduceEqDiff,Nat.reduceLT,Nat.reduceAdd,Nat.reduceSub,reduceIte,Kt_P,zcs,zct,zcu,zcv,zcw,zcx,zcy,zcz,zda,zdb,zdc,zdd,zde,zdf,zdg,zdh,zdi,zdj,zdk,reduceCtorEq,zdl,zdm,zdn,goInt,zdo,zdp,zdq,zdr,zds,zdt,zdu,zdv,zdw,zdx,zdy,zdz,zea,zeb,zec,zed,zdk,zee,zef,zeg,zeh,zei,zej,zek,zel,zem,zen,zeo,zep,zeq,zer,zes,zet,zeu,zev,zew,zex,zey,ya,yb,yc,yd,ye,yf,ts_int,ts_int64,ts_bool,ts_ints,ts_post,ts_posts,yg,yh,yi,yj,yk,yl,ym,ts_intsl,ts_int64s,ts_bools,ts_side,ts_sideb,ts_pints,ts_pbool,aPure,aLen,ywa,ywb,ywc,ywd,ywe,ywf,ywg,ywh,ywi,ywj,ywk,ywl,ywm,ywn,ywo,ts_string,ts_u8,ts_u64,ts_error,ts_bytes,ts_arr,ts_reader,ts_pbuilder,ts_builder,cv_64_8,cv_8_64,cv_64_i64,cv_i64_64,cv_64_int,cv_int_64,errV_0,e25,hws]
          refine ⟨l.length - (i + 1), by omega, i + 1, bv', by simp [put_at, e0, e5, e23, e24], rfl, by omega, hEH, hHn, ?_, hbvH⟩
          rw [hnext]
          simpa only [List.append_assoc] using hBH
    · have hi2 : i = l.length := by omega
      subst hi2
      rw [List.take_length] at hB
      simp only [zaa,zab,zac,zad,zae,zaf,zag,zah,zai,zaj,zak,zal,zam,zan,zao,zap,zaq,zar,zas,zat,zau,zav,zaw,zax,zay,zaz,zba,aUn,zbb,zbc,zbd,zbe,zbf,zbg,zbh,zbi,zbj,zbk,zbl,zbm,zbn,flat,simple,zbo,zbp,zbq,zbr,zbs,zbt,zbu,zbv,zbw,zbx,zby,zbz,zca,zcb,zcc,zcd,zce,zcf,zcg,zch,zci,zcj,zck,zcl,zcm,zcn,zco,zcp,zcq,zcr,Nat.reduceEqDiff,Nat.reduceLT,Nat.reduceAdd,Nat.reduceSub,reduceIte,Kt_P,zcs,zct,zcu,zcv,zcw,zcx,zcy,zcz,zda,zdb,zdc,zdd,zde,zdf,zdg,zdh,zdi,zdj,zdk,reduceCtorEq,zdl,zdm,zdn,goInt,zdo,zdp,zdq,zdr,zds,zdt,zdu,zdv,zdw,zdx,zdy,zdz,zea,zeb,zec,zed,zdk,zee,zef,zeg,zeh,zei,zej,zek,zel,zem,zen,zeo,zep,zeq,zer,zes,zet,zeu,zev,zew,zex,zey,ya,yb,yc,yd,ye,yf,ts_int,ts_int64,ts_bool,ts_ints,ts_post,ts_posts,yg,yh,yi,yj,yk,yl,ym,ts_intsl,ts_int64s,ts_bools,ts_side,ts_sideb,ts_pints,ts_pbool,aPure,aLen,ywa,ywb,ywc,ywd,ywe,ywf,ywg,ywh,ywi,ywj,ywk,ywl,ywm,ywn,ywo,ts_string,ts_u8,ts_u64,ts_error,ts_bytes,ts_arr,ts_reader,ts_pbuilder,ts_builder,cv_64_8,cv_8_64,cv_64_i64,cv_i64_64,cv_64_int,cv_int_64,errV_0,e5]
      rw [CalF_cal (Kt_prim (by decide) _ _)]
      refine string_ok G b5 bv _ hB (by rw [List.length_append]; have := uintL_pos l.length; omega) (by rw [List.length_append]; omega) _ fun s A5 hF5 hs => ?_
      simp only [zaa,zab,zac,zad,zae,zaf,zag,zah,zai,zaj,zak,zal,zam,zan,zao,zap,zaq,zar,zas,zat,zau,zav,zaw,zax,zay,zaz,zba,aUn,zbb,zbc,zbd,zbe,zbf,zbg,zbh,zbi,zbj,zbk,zbl,zbm,zbn,flat,simple,zbo,zbp,zbq,zbr,zbs,zbt,zbu,zbv,zbw,zbx,zby,zbz,zca,zcb,zcc,zcd,zce,zcf,zcg,zch,zci,zcj,zck,zcl,zcm,zcn,zco,zcp,zcq,zcr,Nat.reduceEqDiff,Nat.reduceLT,Nat.reduceAdd,Nat.reduceSub,reduceIte,Kt_P,zcs,zct,zcu,zcv,zcw,zcx,zcy,zcz,zda,zdb,zdc,zdd,zde,zdf,zdg,zdh,zdi,zdj,zdk,reduceCtorEq,zdl,zdm,zdn,goInt,zdo,zdp,zdq,zdr,zds,zdt,zdu,zdv,zdw,zdx,zdy,zdz,zea,zeb,zec,zed,zdk,zee,zef,zeg,zeh,zei,zej,zek,zel,zem,zen,zeo,zep,zeq,zer,zes,zet,zeu,zev,zew,zex,zey,ya,yb,yc,yd,ye,yf,ts_int,ts_int64,ts_bool,ts_ints,ts_post,ts_posts,yg,yh,yi,yj,yk,yl,ym,ts_intsl,ts_int64s,ts_bools,ts_side,ts_sideb,ts_pints,ts_pbool,aPure,aLen,ywa,ywb,ywc,ywd,ywe,ywf,ywg,ywh,ywi,ywj,ywk,ywl,ywm,ywn,ywo,ts_string,ts_u8,ts_u64,ts_error,ts_bytes,ts_arr,ts_reader,ts_pbuilder,ts_builder,cv_64_8,cv_8_64,cv_64_i64,cv_i64_64,cv_64_int,cv_int_64,errV_0]
      exact hq s A5 (Fr.trans hE hF5 fun b hb1 hc => by have := hbv b hc; omega) hs
  · exact absurd (hw i) hbad
end Go.Sh
