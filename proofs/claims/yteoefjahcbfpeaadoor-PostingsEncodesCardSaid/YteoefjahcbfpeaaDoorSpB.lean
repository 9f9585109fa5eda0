/- What single functions do, part 2: lists of posts that may be. -/
import Derived.Test.YteoefjahcbfpeaaDoorSpA
namespace Go.Sh
open Go Go.Proofs
set_option linter.unusedSimpArgs false
set_option maxRecDepth 4000

theorem ts_pint64 : tsize Tryd.prog 76 = some 1 := by kernel_rfl
theorem bad_iff {p q : Prop} {r : Bool} (hr : r = true ↔ q) (no : ¬ p) : ((!r) = true ↔ p ∨ ¬ q) := by
  cases r with
  | true => simp [no, hr.1 rfl]
  | false => simp [no]; exact fun h => by simpa using hr.2 h
theorem fn_wrong11 : Kt.funcs 45 = some Tryd.f45 := by kernel_rfl

theorem wrong11_ok (A : AHeap) (ab : Nat) (w : Value) (prev : Option Int) (hab : Box A ab 76 [w])
    (hw : (w = .pointer none ∧ prev = none) ∨ ∃ bp dp up, w = .pointer (some ⟨bp, 0, none⟩) ∧ Box A bp 44 [.int .i64 dp, up] ∧ prev = some dp) (d : Int) (u : Value) (l : List Int) (hu : Ints A u l) (Q : Value → AHeap → Prop)
    (hq : ∀ (bad : Bool) (A' : AHeap) (b' : Nat), (bad = true ↔ (∃ dp, prev = some dp ∧ d ≤ dp) ∨ ¬ rises l) → Fr (fun j => j = ab) A A' → Box A' ab 76 [.pointer (some ⟨b', 0, none⟩)] → b' ≠ ab → Box A' b' 44 [.int .i64 d, u] →
      Q (.bool bad) A') : Cal Kt 45 #[.agg #[.int .i64 d, u], .pointer (some ⟨ab, 0, none⟩)] A Q := by
  refine Cal_of (nt := 23) (rs := [.tmp 3]) fn_wrong11 rfl rfl rfl (Nat.le_of_ble_eq_true rfl) ?_
  simp only [zaa,zab,zac,zad,zae,zaf,zag,zah,zai,zaj,zak,zal,zam,zan,zao,zap,zaq,zar,zas,zat,zau,zav,zaw,zax,zay,zaz,zba,aUn,zbb,zbc,zbd,zbe,zbf,zbg,zbh,zbi,zbj,zbk,zbl,zbm,zbn,flat,simple,zbo,zbp,zbq,zbr,zbs,zbt,zbu,zbv,zbw,zbx,zby,zbz,zca,zcb,zcc,zcd,zce,zcf,zcg,zch,zci,zcj,zck,zcl,zcm,zcn,zco,zcp,zcq,zcr,Nat.reduceEqDiff,Nat.reduceLT,Nat.reduceAdd,Nat.reduceSub,reduceIte,Kt_P,zcs,zct,zcu,zcv,zcw,zcx,zcy,zcz,zda,zdb,zdc,zdd,zde,zdf,zdg,zdh,zdi,zdj,zdk,reduceCtorEq,zdl,zdm,zdn,goInt,zdo,zdp,zdq,zdr,zds,zdt,zdu,zdv,zdw,zdx,zdy,zdz,zea,zeb,zec,zed,zdk,zee,zef,zeg,zeh,zei,zej,zek,zel,zem,zen,zeo,zep,zeq,zer,zes,zet,zeu,zev,zew,zex,zey,ya,yb,yc,yd,ye,yf,ts_int,ts_int64,ts_bool,ts_ints,ts_post,ts_posts,aPure,aLen]
  refine OpW_box_of ts_post rfl fun b A1 hb hn hE hB => ?_
  simp only [zaa,zab,zac,zad,zae,zaf,zag,zah,zai,zaj,zak,zal,zam,zan,zao,zap,zaq,zar,zas,zat,zau,zav,zaw,zax,zay,zaz,zba,aUn,zbb,zbc,zbd,zbe,zbf,zbg,zbh,zbi,zbj,zbk,zbl,zbm,zbn,flat,simple,zbo,zbp,zbq,zbr,zbs,zbt,zbu,zbv,zbw,zbx,zby,zbz,zca,zcb,zcc,zcd,zce,zcf,zcg,zch,zci,zcj,zck,zcl,zcm,zcn,zco,zcp,zcq,zcr,Nat.reduceEqDiff,Nat.reduceLT,Nat.reduceAdd,Nat.reduceSub,reduceIte,Kt_P,zcs,zct,zcu,zcv,zcw,zcx,zcy,zcz,zda,zdb,zdc,zdd,zde,zdf,zdg,zdh,zdi,zdj,zdk,reduceCtorEq,zdl,zdm,zdn,goInt,zdo,zdp,zdq,zdr,zds,zdt,zdu,zdv,zdw,zdx,zdy,zdz,zea,zeb,zec,zed,zdk,zee,zef,zeg,zeh,zei,zej,zek,zel,zem,zen,zeo,zep,zeq,zer,zes,zet,zeu,zev,zew,zex,zey,ya,yb,yc,yd,ye,yf,ts_int,ts_int64,ts_bool,ts_ints,ts_post,ts_posts,aPure,aLen,Value.cells] at hB ⊢
  have hab1 := hE.box hab (fun h => h)
  have hl1 := hab1.load (P := Tryd.prog) (o := 0) (t := 76) Tryd.underlying76 rfl rfl
  have hne : b ≠ ab := by have := hab.1; omega
  rw [Cod_draw (by kernel_rfl) (by kernel_rfl)]
  have nn := fun c a => aBin_nil_neq (P := Tryd.prog) (c := c) Tryd.underlying76 a
  simp only [zaa,zab,zac,zad,zae,zaf,zag,zah,zai,zaj,zak,zal,zam,zan,zao,zap,zaq,zar,zas,zat,zau,zav,zaw,zax,zay,zaz,zba,aUn,zbb,zbc,zbd,zbe,zbf,zbg,zbh,zbi,zbj,zbk,zbl,zbm,zbn,flat,simple,zbo,zbp,zbq,zbr,zbs,zbt,zbu,zbv,zbw,zbx,zby,zbz,zca,zcb,zcc,zcd,zce,zcf,zcg,zch,zci,zcj,zck,zcl,zcm,zcn,zco,zcp,zcq,zcr,Nat.reduceEqDiff,Nat.reduceLT,Nat.reduceAdd,Nat.reduceSub,reduceIte,Kt_P,zcs,zct,zcu,zcv,zcw,zcx,zcy,zcz,zda,zdb,zdc,zdd,zde,zdf,zdg,zdh,zdi,zdj,zdk,reduceCtorEq,zdl,zdm,zdn,goInt,zdo,zdp,zdq,zdr,zds,zdt,zdu,zdv,zdw,zdx,zdy,zdz,zea,zeb,zec,zed,zdk,zee,zef,zeg,zeh,zei,zej,zek,zel,zem,zen,zeo,zep,zeq,zer,zes,zet,zeu,zev,zew,zex,zey,ya,yb,yc,yd,ye,yf,ts_int,ts_int64,ts_bool,ts_ints,ts_post,ts_posts,aPure,aLen,hl1]
  have hlu := hB.load (P := Tryd.prog) (o := 1) (t := 42) Tryd.underlying42 rfl rfl
  have hld := hB.load (P := Tryd.prog) (o := 0) (t := 2) Tryd.underlying2 rfl rfl
  have hlu1 := hu.fr hE
  rcases hw with ⟨rfl, rfl⟩ | ⟨bp, dp, up, rfl, hbp, rfl⟩
  · simp only [zaa,zab,zac,zad,zae,zaf,zag,zah,zai,zaj,zak,zal,zam,zan,zao,zap,zaq,zar,zas,zat,zau,zav,zaw,zax,zay,zaz,zba,aUn,zbb,zbc,zbd,zbe,zbf,zbg,zbh,zbi,zbj,zbk,zbl,zbm,zbn,flat,simple,zbo,zbp,zbq,zbr,zbs,zbt,zbu,zbv,zbw,zbx,zby,zbz,zca,zcb,zcc,zcd,zce,zcf,zcg,zch,zci,zcj,zck,zcl,zcm,zcn,zco,zcp,zcq,zcr,Nat.reduceEqDiff,Nat.reduceLT,Nat.reduceAdd,Nat.reduceSub,reduceIte,Kt_P,zcs,zct,zcu,zcv,zcw,zcx,zcy,zcz,zda,zdb,zdc,zdd,zde,zdf,zdg,zdh,zdi,zdj,zdk,reduceCtorEq,zdl,zdm,zdn,goInt,zdo,zdp,zdq,zdr,zds,zdt,zdu,zdv,zdw,zdx,zdy,zdz,zea,zeb,zec,zed,zdk,zee,zef,zeg,zeh,zei,zej,zek,zel,zem,zen,zeo,zep,zeq,zer,zes,zet,zeu,zev,zew,zex,zey,ya,yb,yc,yd,ye,yf,ts_int,ts_int64,ts_bool,ts_ints,ts_post,ts_posts,aPure,aLen,zez,zfa,zfb,zfc,zbb,zbc,nn,hl1,hlu]
    rw [CalF_cal (Kt_prim (by decide) _ _)]
    refine rises_ok A1 u l hlu1 _ fun r hr => ?_
    simp only [zaa,zab,zac,zad,zae,zaf,zag,zah,zai,zaj,zak,zal,zam,zan,zao,zap,zaq,zar,zas,zat,zau,zav,zaw,zax,zay,zaz,zba,aUn,zbb,zbc,zbd,zbe,zbf,zbg,zbh,zbi,zbj,zbk,zbl,zbm,zbn,flat,simple,zbo,zbp,zbq,zbr,zbs,zbt,zbu,zbv,zbw,zbx,zby,zbz,zca,zcb,zcc,zcd,zce,zcf,zcg,zch,zci,zcj,zck,zcl,zcm,zcn,zco,zcp,zcq,zcr,Nat.reduceEqDiff,Nat.reduceLT,Nat.reduceAdd,Nat.reduceSub,reduceIte,Kt_P,zcs,zct,zcu,zcv,zcw,zcx,zcy,zcz,zda,zdb,zdc,zdd,zde,zdf,zdg,zdh,zdi,zdj,zdk,reduceCtorEq,zdl,zdm,zdn,goInt,zdo,zdp,zdq,zdr,zds,zdt,zdu,zdv,zdw,zdx,zdy,zdz,zea,zeb,zec,zed,zdk,zee,zef,zeg,zeh,zei,zej,zek,zel,zem,zen,zeo,zep,zeq,zer,zes,zet,zeu,zev,zew,zex,zey,ya,yb,yc,yd,ye,yf,ts_int,ts_int64,ts_bool,ts_ints,ts_post,ts_posts,aPure,aLen,hl1,hlu]
    refine OpW_store_of hab1 ⟨rfl, rfl⟩ rfl ts_pint64 (Nat.le_refl _) rfl fun A2 hn2 hF2 hB2 => ?_
    simp only [zaa,zab,zac,zad,zae,zaf,zag,zah,zai,zaj,zak,zal,zam,zan,zao,zap,zaq,zar,zas,zat,zau,zav,zaw,zax,zay,zaz,zba,aUn,zbb,zbc,zbd,zbe,zbf,zbg,zbh,zbi,zbj,zbk,zbl,zbm,zbn,flat,simple,zbo,zbp,zbq,zbr,zbs,zbt,zbu,zbv,zbw,zbx,zby,zbz,zca,zcb,zcc,zcd,zce,zcf,zcg,zch,zci,zcj,zck,zcl,zcm,zcn,zco,zcp,zcq,zcr,Nat.reduceEqDiff,Nat.reduceLT,Nat.reduceAdd,Nat.reduceSub,reduceIte,Kt_P,zcs,zct,zcu,zcv,zcw,zcx,zcy,zcz,zda,zdb,zdc,zdd,zde,zdf,zdg,zdh,zdi,zdj,zdk,reduceCtorEq,zdl,zdm,zdn,goInt,zdo,zdp,zdq,zdr,zds,zdt,zdu,zdv,zdw,zdx,zdy,zdz,zea,zeb,zec,zed,zdk,zee,zef,zeg,zeh,zei,zej,zek,zel,zem,zen,zeo,zep,zeq,zer,zes,zet,zeu,zev,zew,zex,zey,ya,yb,yc,yd,ye,yf,ts_int,ts_int64,ts_bool,ts_ints,ts_post,ts_posts,aPure,aLen]
    refine hq (!r) A2 b (bad_iff hr (fun h => by simp at h)) ((hE.fr.trans hF2 fun j _ h => h)) hB2 hne (hF2.box hB hne)
  · have hbp1 := hE.box hbp (fun h => h)
    have hlp := hbp1.load (P := Tryd.prog) (o := 0) (t := 2) Tryd.underlying2 rfl rfl
    simp only [zaa,zab,zac,zad,zae,zaf,zag,zah,zai,zaj,zak,zal,zam,zan,zao,zap,zaq,zar,zas,zat,zau,zav,zaw,zax,zay,zaz,zba,aUn,zbb,zbc,zbd,zbe,zbf,zbg,zbh,zbi,zbj,zbk,zbl,zbm,zbn,flat,simple,zbo,zbp,zbq,zbr,zbs,zbt,zbu,zbv,zbw,zbx,zby,zbz,zca,zcb,zcc,zcd,zce,zcf,zcg,zch,zci,zcj,zck,zcl,zcm,zcn,zco,zcp,zcq,zcr,Nat.reduceEqDiff,Nat.reduceLT,Nat.reduceAdd,Nat.reduceSub,reduceIte,Kt_P,zcs,zct,zcu,zcv,zcw,zcx,zcy,zcz,zda,zdb,zdc,zdd,zde,zdf,zdg,zdh,zdi,zdj,zdk,reduceCtorEq,zdl,zdm,zdn,goInt,zdo,zdp,zdq,zdr,zds,zdt,zdu,zdv,zdw,zdx,zdy,zdz,zea,zeb,zec,zed,zdk,zee,zef,zeg,zeh,zei,zej,zek,zel,zem,zen,zeo,zep,zeq,zer,zes,zet,zeu,zev,zew,zex,zey,ya,yb,yc,yd,ye,yf,ts_int,ts_int64,ts_bool,ts_ints,ts_post,ts_posts,aPure,aLen,zez,zfa,zfb,zfc,zbb,zbc,nn,hl1,hlu,hld,hlp]
    refine Grd_of (fun hgt => ?_) (fun hle => ?_)
    · simp only [zaa,zab,zac,zad,zae,zaf,zag,zah,zai,zaj,zak,zal,zam,zan,zao,zap,zaq,zar,zas,zat,zau,zav,zaw,zax,zay,zaz,zba,aUn,zbb,zbc,zbd,zbe,zbf,zbg,zbh,zbi,zbj,zbk,zbl,zbm,zbn,flat,simple,zbo,zbp,zbq,zbr,zbs,zbt,zbu,zbv,zbw,zbx,zby,zbz,zca,zcb,zcc,zcd,zce,zcf,zcg,zch,zci,zcj,zck,zcl,zcm,zcn,zco,zcp,zcq,zcr,Nat.reduceEqDiff,Nat.reduceLT,Nat.reduceAdd,Nat.reduceSub,reduceIte,Kt_P,zcs,zct,zcu,zcv,zcw,zcx,zcy,zcz,zda,zdb,zdc,zdd,zde,zdf,zdg,zdh,zdi,zdj,zdk,reduceCtorEq,zdl,zdm,zdn,goInt,zdo,zdp,zdq,zdr,zds,zdt,zdu,zdv,zdw,zdx,zdy,zdz,zea,zeb,zec,zed,zdk,zee,zef,zeg,zeh,zei,zej,zek,zel,zem,zen,zeo,zep,zeq,zer,zes,zet,zeu,zev,zew,zex,zey,ya,yb,yc,yd,ye,yf,ts_int,ts_int64,ts_bool,ts_ints,ts_post,ts_posts,aPure,aLen,hl1,hlu,hld,hlp,hgt]
      rw [CalF_cal (Kt_prim (by decide) _ _)]
      refine rises_ok A1 u l hlu1 _ fun r hr => ?_
      simp only [zaa,zab,zac,zad,zae,zaf,zag,zah,zai,zaj,zak,zal,zam,zan,zao,zap,zaq,zar,zas,zat,zau,zav,zaw,zax,zay,zaz,zba,aUn,zbb,zbc,zbd,zbe,zbf,zbg,zbh,zbi,zbj,zbk,zbl,zbm,zbn,flat,simple,zbo,zbp,zbq,zbr,zbs,zbt,zbu,zbv,zbw,zbx,zby,zbz,zca,zcb,zcc,zcd,zce,zcf,zcg,zch,zci,zcj,zck,zcl,zcm,zcn,zco,zcp,zcq,zcr,Nat.reduceEqDiff,Nat.reduceLT,Nat.reduceAdd,Nat.reduceSub,reduceIte,Kt_P,zcs,zct,zcu,zcv,zcw,zcx,zcy,zcz,zda,zdb,zdc,zdd,zde,zdf,zdg,zdh,zdi,zdj,zdk,reduceCtorEq,zdl,zdm,zdn,goInt,zdo,zdp,zdq,zdr,zds,zdt,zdu,zdv,zdw,zdx,zdy,zdz,zea,zeb,zec,zed,zdk,zee,zef,zeg,zeh,zei,zej,zek,zel,zem,zen,zeo,zep,zeq,zer,zes,zet,zeu,zev,zew,zex,zey,ya,yb,yc,yd,ye,yf,ts_int,ts_int64,ts_bool,ts_ints,ts_post,ts_posts,aPure,aLen,hl1,hlu]
      refine OpW_store_of hab1 ⟨rfl, rfl⟩ rfl ts_pint64 (Nat.le_refl _) rfl fun A2 hn2 hF2 hB2 => ?_
      simp only [zaa,zab,zac,zad,zae,zaf,zag,zah,zai,zaj,zak,zal,zam,zan,zao,zap,zaq,zar,zas,zat,zau,zav,zaw,zax,zay,zaz,zba,aUn,zbb,zbc,zbd,zbe,zbf,zbg,zbh,zbi,zbj,zbk,zbl,zbm,zbn,flat,simple,zbo,zbp,zbq,zbr,zbs,zbt,zbu,zbv,zbw,zbx,zby,zbz,zca,zcb,zcc,zcd,zce,zcf,zcg,zch,zci,zcj,zck,zcl,zcm,zcn,zco,zcp,zcq,zcr,Nat.reduceEqDiff,Nat.reduceLT,Nat.reduceAdd,Nat.reduceSub,reduceIte,Kt_P,zcs,zct,zcu,zcv,zcw,zcx,zcy,zcz,zda,zdb,zdc,zdd,zde,zdf,zdg,zdh,zdi,zdj,zdk,reduceCtorEq,zdl,zdm,zdn,goInt,zdo,zdp,zdq,zdr,zds,zdt,zdu,zdv,zdw,zdx,zdy,zdz,zea,zeb,zec,zed,zdk,zee,zef,zeg,zeh,zei,zej,zek,zel,zem,zen,zeo,zep,zeq,zer,zes,zet,zeu,zev,zew,zex,zey,ya,yb,yc,yd,ye,yf,ts_int,ts_int64,ts_bool,ts_ints,ts_post,ts_posts,aPure,aLen]
      refine hq (!r) A2 b (bad_iff hr (fun h => by obtain ⟨dp', h1, h2⟩ := h; cases h1; exact absurd h2 hgt)) ((hE.fr.trans hF2 fun j _ h => h)) hB2 hne (hF2.box hB hne)
    · have hle : d ≤ dp := Decidable.not_not.1 hle
      simp only [zaa,zab,zac,zad,zae,zaf,zag,zah,zai,zaj,zak,zal,zam,zan,zao,zap,zaq,zar,zas,zat,zau,zav,zaw,zax,zay,zaz,zba,aUn,zbb,zbc,zbd,zbe,zbf,zbg,zbh,zbi,zbj,zbk,zbl,zbm,zbn,flat,simple,zbo,zbp,zbq,zbr,zbs,zbt,zbu,zbv,zbw,zbx,zby,zbz,zca,zcb,zcc,zcd,zce,zcf,zcg,zch,zci,zcj,zck,zcl,zcm,zcn,zco,zcp,zcq,zcr,Nat.reduceEqDiff,Nat.reduceLT,Nat.reduceAdd,Nat.reduceSub,reduceIte,Kt_P,zcs,zct,zcu,zcv,zcw,zcx,zcy,zcz,zda,zdb,zdc,zdd,zde,zdf,zdg,zdh,zdi,zdj,zdk,reduceCtorEq,zdl,zdm,zdn,goInt,zdo,zdp,zdq,zdr,zds,zdt,zdu,zdv,zdw,zdx,zdy,zdz,zea,zeb,zec,zed,zdk,zee,zef,zeg,zeh,zei,zej,zek,zel,zem,zen,zeo,zep,zeq,zer,zes,zet,zeu,zev,zew,zex,zey,ya,yb,yc,yd,ye,yf,ts_int,ts_int64,ts_bool,ts_ints,ts_post,ts_posts,aPure,aLen,hl1,hlu,hld,hlp,hle]
      refine OpW_store_of hab1 ⟨rfl, rfl⟩ rfl ts_pint64 (Nat.le_refl _) rfl fun A2 hn2 hF2 hB2 => ?_
      simp only [zaa,zab,zac,zad,zae,zaf,zag,zah,zai,zaj,zak,zal,zam,zan,zao,zap,zaq,zar,zas,zat,zau,zav,zaw,zax,zay,zaz,zba,aUn,zbb,zbc,zbd,zbe,zbf,zbg,zbh,zbi,zbj,zbk,zbl,zbm,zbn,flat,simple,zbo,zbp,zbq,zbr,zbs,zbt,zbu,zbv,zbw,zbx,zby,zbz,zca,zcb,zcc,zcd,zce,zcf,zcg,zch,zci,zcj,zck,zcl,zcm,zcn,zco,zcp,zcq,zcr,Nat.reduceEqDiff,Nat.reduceLT,Nat.reduceAdd,Nat.reduceSub,reduceIte,Kt_P,zcs,zct,zcu,zcv,zcw,zcx,zcy,zcz,zda,zdb,zdc,zdd,zde,zdf,zdg,zdh,zdi,zdj,zdk,reduceCtorEq,zdl,zdm,zdn,goInt,zdo,zdp,zdq,zdr,zds,zdt,zdu,zdv,zdw,zdx,zdy,zdz,zea,zeb,zec,zed,zdk,zee,zef,zeg,zeh,zei,zej,zek,zel,zem,zen,zeo,zep,zeq,zer,zes,zet,zeu,zev,zew,zex,zey,ya,yb,yc,yd,ye,yf,ts_int,ts_int64,ts_bool,ts_ints,ts_post,ts_posts,aPure,aLen]
      refine hq true A2 b (⟨fun _ => .inl ⟨dp, rfl, hle⟩, fun _ => rfl⟩) ((hE.fr.trans hF2 fun j _ h => h)) hB2 hne (hF2.box hB hne)

def okAt (l : List PostL) (i : Nat) : Prop := ∀ h : i < l.length, (0 < i → l[i-1].1 < l[i].1) ∧ rises l[i].2
def wfs (l : List PostL) : Prop := ∀ i, okAt l i

/-- What the closure remembers ahead of round i. -/
def Prev (A : AHeap) (w : Value) (prev : Option Int) : Prop :=
  (w = .pointer none ∧ prev = none) ∨ ∃ bp dp up, w = .pointer (some ⟨bp, 0, none⟩) ∧ Box A bp 44 [.int .i64 dp, up] ∧ prev = some dp
def prevAt (l : List PostL) (i : Nat) : Option Int := if i = 0 then none else (l[i - 1]?).map (·.1)

theorem fn_index : Kt.funcs 43 = some Tryd.f43 := by kernel_rfl

theorem index_ok (A : AHeap) (v : Value) (l : List PostL) (h : Posts A v l) (ab : Nat) (hab : Box A ab 76 [.pointer none]) (Q : Value → AHeap → Prop)
    (hq : ∀ (r : Int) A', Fr (fun j => j = ab) A A' → ((r = -1 ∧ wfs l) ∨ ∃ i : Nat, r = i ∧ i < l.length ∧ ¬ okAt l i ∧ ∀ j < i, okAt l j) → Q (.int .i64 r) A') :
    Cal Kt 43 #[v, .func (.func 45) #[] #[.pointer (some ⟨ab, 0, none⟩)]] A Q := by
  refine Cal_of (nt := 19) (rs := [.tmp 4]) fn_index rfl rfl rfl (Nat.le_of_ble_eq_true rfl) ?_
  obtain ⟨o, c, hv, hlen, _⟩ := h.opened
  subst hv
  simp only [zaa,zab,zac,zad,zae,zaf,zag,zah,zai,zaj,zak,zal,zam,zan,zao,zap,zaq,zar,zas,zat,zau,zav,zaw,zax,zay,zaz,zba,aUn,zbb,zbc,zbd,zbe,zbf,zbg,zbh,zbi,zbj,zbk,zbl,zbm,zbn,flat,simple,zbo,zbp,zbq,zbr,zbs,zbt,zbu,zbv,zbw,zbx,zby,zbz,zca,zcb,zcc,zcd,zce,zcf,zcg,zch,zci,zcj,zck,zcl,zcm,zcn,zco,zcp,zcq,zcr,Nat.reduceEqDiff,Nat.reduceLT,Nat.reduceAdd,Nat.reduceSub,reduceIte,Kt_P,zcs,zct,zcu,zcv,zcw,zcx,zcy,zcz,zda,zdb,zdc,zdd,zde,zdf,zdg,zdh,zdi,zdj,zdk,reduceCtorEq,zdl,zdm,zdn,goInt,zdo,zdp,zdq,zdr,zds,zdt,zdu,zdv,zdw,zdx,zdy,zdz,zea,zeb,zec,zed,zdk,zee,zef,zeg,zeh,zei,zej,zek,zel,zem,zen,zeo,zep,zeq,zer,zes,zet,zeu,zev,zew,zex,zey,ya,yb,yc,yd,ye,yf,ts_int,ts_int64,ts_bool,ts_ints,ts_post,ts_posts,aPure,aLen]
  refine Lop_inv (fun k e A' => ∃ (i : Nat) (w : Value), (e 0 = .slice o l.length c ∧ e 1 = .func (.func 45) #[] #[.pointer (some ⟨ab, 0, none⟩)] ∧ e 7 = .int .i64 l.length ∧ e 8 = .int .i64 i) ∧ k = l.length - i ∧ i ≤ l.length ∧
    Fr (fun j => j = ab) A A' ∧ Box A' ab 76 [w] ∧ Prev A' w (prevAt l i) ∧ ∀ j < i, okAt l j) ?_ l.length _ _ ⟨0, .pointer none, by simp [put_at, argEnv], by simp, by simp, Fr.refl _ _, hab, .inl ⟨rfl, rfl⟩, by simp⟩
  rintro k e A' ⟨i, w, ⟨h0, h1, h7, h8⟩, rfl, hi, hF, hB, hP, hr⟩
  simp only [zaa,zab,zac,zad,zae,zaf,zag,zah,zai,zaj,zak,zal,zam,zan,zao,zap,zaq,zar,zas,zat,zau,zav,zaw,zax,zay,zaz,zba,aUn,zbb,zbc,zbd,zbe,zbf,zbg,zbh,zbi,zbj,zbk,zbl,zbm,zbn,flat,simple,zbo,zbp,zbq,zbr,zbs,zbt,zbu,zbv,zbw,zbx,zby,zbz,zca,zcb,zcc,zcd,zce,zcf,zcg,zch,zci,zcj,zck,zcl,zcm,zcn,zco,zcp,zcq,zcr,Nat.reduceEqDiff,Nat.reduceLT,Nat.reduceAdd,Nat.reduceSub,reduceIte,Kt_P,zcs,zct,zcu,zcv,zcw,zcx,zcy,zcz,zda,zdb,zdc,zdd,zde,zdf,zdg,zdh,zdi,zdj,zdk,reduceCtorEq,zdl,zdm,zdn,goInt,zdo,zdp,zdq,zdr,zds,zdt,zdu,zdv,zdw,zdx,zdy,zdz,zea,zeb,zec,zed,zdk,zee,zef,zeg,zeh,zei,zej,zek,zel,zem,zen,zeo,zep,zeq,zer,zes,zet,zeu,zev,zew,zex,zey,ya,yb,yc,yd,ye,yf,ts_int,ts_int64,ts_bool,ts_ints,ts_post,ts_posts,aPure,aLen,h0,h1,h7,h8]
  refine Way_of (fun hlt => ?_) (fun hge => ?_)
  · obtain ⟨o', c', ho', _, hdat⟩ := (h.fr hF).opened
    cases ho'
    obtain ⟨b, u, hob, hl, _, _, hu, _⟩ := hdat i hlt
    subst hob
    simp only [zaa,zab,zac,zad,zae,zaf,zag,zah,zai,zaj,zak,zal,zam,zan,zao,zap,zaq,zar,zas,zat,zau,zav,zaw,zax,zay,zaz,zba,aUn,zbb,zbc,zbd,zbe,zbf,zbg,zbh,zbi,zbj,zbk,zbl,zbm,zbn,flat,simple,zbo,zbp,zbq,zbr,zbs,zbt,zbu,zbv,zbw,zbx,zby,zbz,zca,zcb,zcc,zcd,zce,zcf,zcg,zch,zci,zcj,zck,zcl,zcm,zcn,zco,zcp,zcq,zcr,Nat.reduceEqDiff,Nat.reduceLT,Nat.reduceAdd,Nat.reduceSub,reduceIte,Kt_P,zcs,zct,zcu,zcv,zcw,zcx,zcy,zcz,zda,zdb,zdc,zdd,zde,zdf,zdg,zdh,zdi,zdj,zdk,reduceCtorEq,zdl,zdm,zdn,goInt,zdo,zdp,zdq,zdr,zds,zdt,zdu,zdv,zdw,zdx,zdy,zdz,zea,zeb,zec,zed,zdk,zee,zef,zeg,zeh,zei,zej,zek,zel,zem,zen,zeo,zep,zeq,zer,zes,zet,zeu,zev,zew,zex,zey,ya,yb,yc,yd,ye,yf,ts_int,ts_int64,ts_bool,ts_ints,ts_post,ts_posts,aPure,aLen,h0,h1,h7,h8,hl,hlt]
    rw [CalF_cal (Kt_prim (by decide) _ _)]
    refine wrong11_ok A' ab w (prevAt l i) hB hP l[i].1 u l[i].2 hu _ fun bad A2 b2 hbad hF2 hB2 hne hB3 => ?_
    simp only [zaa,zab,zac,zad,zae,zaf,zag,zah,zai,zaj,zak,zal,zam,zan,zao,zap,zaq,zar,zas,zat,zau,zav,zaw,zax,zay,zaz,zba,aUn,zbb,zbc,zbd,zbe,zbf,zbg,zbh,zbi,zbj,zbk,zbl,zbm,zbn,flat,simple,zbo,zbp,zbq,zbr,zbs,zbt,zbu,zbv,zbw,zbx,zby,zbz,zca,zcb,zcc,zcd,zce,zcf,zcg,zch,zci,zcj,zck,zcl,zcm,zcn,zco,zcp,zcq,zcr,Nat.reduceEqDiff,Nat.reduceLT,Nat.reduceAdd,Nat.reduceSub,reduceIte,Kt_P,zcs,zct,zcu,zcv,zcw,zcx,zcy,zcz,zda,zdb,zdc,zdd,zde,zdf,zdg,zdh,zdi,zdj,zdk,reduceCtorEq,zdl,zdm,zdn,goInt,zdo,zdp,zdq,zdr,zds,zdt,zdu,zdv,zdw,zdx,zdy,zdz,zea,zeb,zec,zed,zdk,zee,zef,zeg,zeh,zei,zej,zek,zel,zem,zen,zeo,zep,zeq,zer,zes,zet,zeu,zev,zew,zex,zey,ya,yb,yc,yd,ye,yf,ts_int,ts_int64,ts_bool,ts_ints,ts_post,ts_posts,aPure,aLen,h0,h1,h7,h8]
    have hok : bad = true ↔ ¬ okAt l i := by
      rw [hbad]
      constructor
      · rintro (⟨dp, h2, h3⟩ | h2) hc
        · unfold prevAt at h2
          split at h2
          · cases h2
          · rename_i h0i
            have hlt' : i - 1 < l.length := by omega
            rw [List.getElem?_eq_getElem hlt'] at h2
            simp only [Option.map_some,Option.some.injEq] at h2
            have := (hc hlt).1 (by omega)
            omega
        · exact h2 (hc hlt).2
      · intro hc
        by_cases hri : rises l[i].2
        · refine .inl ?_
          by_cases h0i : i = 0
          · exact absurd (fun _ => ⟨fun h => by omega, hri⟩) hc
          · have hlt' : i - 1 < l.length := by omega
            refine ⟨l[i-1].1, by simp [prevAt, h0i, hlt'], ?_⟩
            by_cases hle : l[i].1 ≤ l[i-1].1
            · exact hle
            · exact absurd (fun _ => ⟨fun _ => by omega, hri⟩) hc
        · exact .inr hri
    refine Way_ofB (fun hb => ?_) (fun hb => ?_)
    · simp only [zaa,zab,zac,zad,zae,zaf,zag,zah,zai,zaj,zak,zal,zam,zan,zao,zap,zaq,zar,zas,zat,zau,zav,zaw,zax,zay,zaz,zba,aUn,zbb,zbc,zbd,zbe,zbf,zbg,zbh,zbi,zbj,zbk,zbl,zbm,zbn,flat,simple,zbo,zbp,zbq,zbr,zbs,zbt,zbu,zbv,zbw,zbx,zby,zbz,zca,zcb,zcc,zcd,zce,zcf,zcg,zch,zci,zcj,zck,zcl,zcm,zcn,zco,zcp,zcq,zcr,Nat.reduceEqDiff,Nat.reduceLT,Nat.reduceAdd,Nat.reduceSub,reduceIte,Kt_P,zcs,zct,zcu,zcv,zcw,zcx,zcy,zcz,zda,zdb,zdc,zdd,zde,zdf,zdg,zdh,zdi,zdj,zdk,reduceCtorEq,zdl,zdm,zdn,goInt,zdo,zdp,zdq,zdr,zds,zdt,zdu,zdv,zdw,zdx,zdy,zdz,zea,zeb,zec,zed,zdk,zee,zef,zeg,zeh,zei,zej,zek,zel,zem,zen,zeo,zep,zeq,zer,zes,zet,zeu,zev,zew,zex,zey,ya,yb,yc,yd,ye,yf,ts_int,ts_int64,ts_bool,ts_ints,ts_post,ts_posts,aPure,aLen,h8]
      exact hq _ _ (hF.trans hF2 fun _ _ h => h) (.inr ⟨i, rfl, hlt, hok.1 hb, hr⟩)
    · simp only [zaa,zab,zac,zad,zae,zaf,zag,zah,zai,zaj,zak,zal,zam,zan,zao,zap,zaq,zar,zas,zat,zau,zav,zaw,zax,zay,zaz,zba,aUn,zbb,zbc,zbd,zbe,zbf,zbg,zbh,zbi,zbj,zbk,zbl,zbm,zbn,flat,simple,zbo,zbp,zbq,zbr,zbs,zbt,zbu,zbv,zbw,zbx,zby,zbz,zca,zcb,zcc,zcd,zce,zcf,zcg,zch,zci,zcj,zck,zcl,zcm,zcn,zco,zcp,zcq,zcr,Nat.reduceEqDiff,Nat.reduceLT,Nat.reduceAdd,Nat.reduceSub,reduceIte,Kt_P,zcs,zct,zcu,zcv,zcw,zcx,zcy,zcz,zda,zdb,zdc,zdd,zde,zdf,zdg,zdh,zdi,zdj,zdk,reduceCtorEq,zdl,zdm,zdn,goInt,zdo,zdp,zdq,zdr,zds,zdt,zdu,zdv,zdw,zdx,zdy,zdz,zea,zeb,zec,zed,zdk,zee,zef,zeg,zeh,zei,zej,zek,zel,zem,zen,zeo,zep,zeq,zer,zes,zet,zeu,zev,zew,zex,zey,ya,yb,yc,yd,ye,yf,ts_int,ts_int64,ts_bool,ts_ints,ts_post,ts_posts,aPure,aLen,h8,wrap_succ hlt hlen]
      have hoki : okAt l i := by
        refine Classical.byContradiction fun hc => ?_
        rw [hok.2 hc] at hb; cases hb
      refine ⟨l.length - (i + 1), by omega, i + 1, _, by simp [put_at, h0, h1, h7], rfl, by omega, hF.trans hF2 fun _ _ h => h, hB2, .inr ⟨b2, l[i].1, u, rfl, hB3, ?_⟩, ?_⟩
      · simp [prevAt, hlt]
      · intro j hj
        by_cases hji : j = i
        · subst hji; exact hoki
        · exact hr j (by omega)
  · simp only [zaa,zab,zac,zad,zae,zaf,zag,zah,zai,zaj,zak,zal,zam,zan,zao,zap,zaq,zar,zas,zat,zau,zav,zaw,zax,zay,zaz,zba,aUn,zbb,zbc,zbd,zbe,zbf,zbg,zbh,zbi,zbj,zbk,zbl,zbm,zbn,flat,simple,zbo,zbp,zbq,zbr,zbs,zbt,zbu,zbv,zbw,zbx,zby,zbz,zca,zcb,zcc,zcd,zce,zcf,zcg,zch,zci,zcj,zck,zcl,zcm,zcn,zco,zcp,zcq,zcr,Nat.reduceEqDiff,Nat.reduceLT,Nat.reduceAdd,Nat.reduceSub,reduceIte,Kt_P,zcs,zct,zcu,zcv,zcw,zcx,zcy,zcz,zda,zdb,zdc,zdd,zde,zdf,zdg,zdh,zdi,zdj,zdk,reduceCtorEq,zdl,zdm,zdn,goInt,zdo,zdp,zdq,zdr,zds,zdt,zdu,zdv,zdw,zdx,zdy,zdz,zea,zeb,zec,zed,zdk,zee,zef,zeg,zeh,zei,zej,zek,zel,zem,zen,zeo,zep,zeq,zer,zes,zet,zeu,zev,zew,zex,zey,ya,yb,yc,yd,ye,yf,ts_int,ts_int64,ts_bool,ts_ints,ts_post,ts_posts,aPure,aLen]
    refine hq _ _ hF (.inl ⟨rfl, fun j hj => ?_⟩)
    exact hr j (by omega) hj

theorem fn_wrong1 : Kt.funcs 44 = some Tryd.f44 := by kernel_rfl
theorem fn_wrong : Kt.funcs 20 = some Tryd.f20 := by kernel_rfl
theorem tz_pint64 : tzero Tryd.prog 76 = some (.pointer none) := by kernel_rfl

theorem wrong1_ok (A : AHeap) (Q : Value → AHeap → Prop) (hq : ∀ ab A', Ext A A' → ab = A.next → Box A' ab 76 [.pointer none] → Q (.func (.func 45) #[] #[.pointer (some ⟨ab, 0, none⟩)]) A') :
    Cal Kt 44 #[] A Q := by
  refine Cal_of (nt := 3) (rs := [.tmp 0]) fn_wrong1 rfl rfl rfl (Nat.le_of_ble_eq_true rfl) ?_
  simp only [zaa,zab,zac,zad,zae,zaf,zag,zah,zai,zaj,zak,zal,zam,zan,zao,zap,zaq,zar,zas,zat,zau,zav,zaw,zax,zay,zaz,zba,aUn,zbb,zbc,zbd,zbe,zbf,zbg,zbh,zbi,zbj,zbk,zbl,zbm,zbn,flat,simple,zbo,zbp,zbq,zbr,zbs,zbt,zbu,zbv,zbw,zbx,zby,zbz,zca,zcb,zcc,zcd,zce,zcf,zcg,zch,zci,zcj,zck,zcl,zcm,zcn,zco,zcp,zcq,zcr,Nat.reduceEqDiff,Nat.reduceLT,Nat.reduceAdd,Nat.reduceSub,reduceIte,Kt_P,zcs,zct,zcu,zcv,zcw,zcx,zcy,zcz,zda,zdb,zdc,zdd,zde,zdf,zdg,zdh,zdi,zdj,zdk,reduceCtorEq,zdl,zdm,zdn,goInt,zdo,zdp,zdq,zdr,zds,zdt,zdu,zdv,zdw,zdx,zdy,zdz,zea,zeb,zec,zed,zdk,zee,zef,zeg,zeh,zei,zej,zek,zel,zem,zen,zeo,zep,zeq,zer,zes,zet,zeu,zev,zew,zex,zey,ya,yb,yc,yd,ye,yf,ts_int,ts_int64,ts_bool,ts_ints,ts_post,ts_posts,aPure,aLen]
  refine OpW_alloc_of ts_pint64 tz_pint64 rfl fun b A1 hb hn hE hB => ?_
  simp only [zaa,zab,zac,zad,zae,zaf,zag,zah,zai,zaj,zak,zal,zam,zan,zao,zap,zaq,zar,zas,zat,zau,zav,zaw,zax,zay,zaz,zba,aUn,zbb,zbc,zbd,zbe,zbf,zbg,zbh,zbi,zbj,zbk,zbl,zbm,zbn,flat,simple,zbo,zbp,zbq,zbr,zbs,zbt,zbu,zbv,zbw,zbx,zby,zbz,zca,zcb,zcc,zcd,zce,zcf,zcg,zch,zci,zcj,zck,zcl,zcm,zcn,zco,zcp,zcq,zcr,Nat.reduceEqDiff,Nat.reduceLT,Nat.reduceAdd,Nat.reduceSub,reduceIte,Kt_P,zcs,zct,zcu,zcv,zcw,zcx,zcy,zcz,zda,zdb,zdc,zdd,zde,zdf,zdg,zdh,zdi,zdj,zdk,reduceCtorEq,zdl,zdm,zdn,goInt,zdo,zdp,zdq,zdr,zds,zdt,zdu,zdv,zdw,zdx,zdy,zdz,zea,zeb,zec,zed,zdk,zee,zef,zeg,zeh,zei,zej,zek,zel,zem,zen,zeo,zep,zeq,zer,zes,zet,zeu,zev,zew,zex,zey,ya,yb,yc,yd,ye,yf,ts_int,ts_int64,ts_bool,ts_ints,ts_post,ts_posts,aPure,aLen]
  exact hq b A1 hE hb hB

theorem wrong_ok (A : AHeap) (v : Value) (l : List PostL) (h : Posts A v l) (Q : Value → AHeap → Prop)
    (hq : ∀ (r : Int) A', Ext A A' → ((r = -1 ∧ wfs l) ∨ ∃ i : Nat, r = i ∧ i < l.length ∧ ¬ okAt l i ∧ ∀ j < i, okAt l j) → Q (.int .i64 r) A') : Cal Kt 20 #[v] A Q := by
  refine Cal_of (nt := 6) (rs := [.tmp 2]) fn_wrong rfl rfl rfl (Nat.le_of_ble_eq_true rfl) ?_
  simp only [zaa,zab,zac,zad,zae,zaf,zag,zah,zai,zaj,zak,zal,zam,zan,zao,zap,zaq,zar,zas,zat,zau,zav,zaw,zax,zay,zaz,zba,aUn,zbb,zbc,zbd,zbe,zbf,zbg,zbh,zbi,zbj,zbk,zbl,zbm,zbn,flat,simple,zbo,zbp,zbq,zbr,zbs,zbt,zbu,zbv,zbw,zbx,zby,zbz,zca,zcb,zcc,zcd,zce,zcf,zcg,zch,zci,zcj,zck,zcl,zcm,zcn,zco,zcp,zcq,zcr,Nat.reduceEqDiff,Nat.reduceLT,Nat.reduceAdd,Nat.reduceSub,reduceIte,Kt_P,zcs,zct,zcu,zcv,zcw,zcx,zcy,zcz,zda,zdb,zdc,zdd,zde,zdf,zdg,zdh,zdi,zdj,zdk,reduceCtorEq,zdl,zdm,zdn,goInt,zdo,zdp,zdq,zdr,zds,zdt,zdu,zdv,zdw,zdx,zdy,zdz,zea,zeb,zec,zed,zdk,zee,zef,zeg,zeh,zei,zej,zek,zel,zem,zen,zeo,zep,zeq,zer,zes,zet,zeu,zev,zew,zex,zey,ya,yb,yc,yd,ye,yf,ts_int,ts_int64,ts_bool,ts_ints,ts_post,ts_posts,aPure,aLen]
  rw [CalF_cal (Kt_prim (by decide) _ _)]
  refine wrong1_ok A _ fun ab A1 hE hab hB => ?_
  simp only [zaa,zab,zac,zad,zae,zaf,zag,zah,zai,zaj,zak,zal,zam,zan,zao,zap,zaq,zar,zas,zat,zau,zav,zaw,zax,zay,zaz,zba,aUn,zbb,zbc,zbd,zbe,zbf,zbg,zbh,zbi,zbj,zbk,zbl,zbm,zbn,flat,simple,zbo,zbp,zbq,zbr,zbs,zbt,zbu,zbv,zbw,zbx,zby,zbz,zca,zcb,zcc,zcd,zce,zcf,zcg,zch,zci,zcj,zck,zcl,zcm,zcn,zco,zcp,zcq,zcr,Nat.reduceEqDiff,Nat.reduceLT,Nat.reduceAdd,Nat.reduceSub,reduceIte,Kt_P,zcs,zct,zcu,zcv,zcw,zcx,zcy,zcz,zda,zdb,zdc,zdd,zde,zdf,zdg,zdh,zdi,zdj,zdk,reduceCtorEq,zdl,zdm,zdn,goInt,zdo,zdp,zdq,zdr,zds,zdt,zdu,zdv,zdw,zdx,zdy,zdz,zea,zeb,zec,zed,zdk,zee,zef,zeg,zeh,zei,zej,zek,zel,zem,zen,zeo,zep,zeq,zer,zes,zet,zeu,zev,zew,zex,zey,ya,yb,yc,yd,ye,yf,ts_int,ts_int64,ts_bool,ts_ints,ts_post,ts_posts,aPure,aLen]
  rw [CalF_cal (Kt_prim (by decide) _ _)]
  refine index_ok A1 v l (h.fr hE) ab hB _ fun r A2 hF hr => ?_
  simp only [zaa,zab,zac,zad,zae,zaf,zag,zah,zai,zaj,zak,zal,zam,zan,zao,zap,zaq,zar,zas,zat,zau,zav,zaw,zax,zay,zaz,zba,aUn,zbb,zbc,zbd,zbe,zbf,zbg,zbh,zbi,zbj,zbk,zbl,zbm,zbn,flat,simple,zbo,zbp,zbq,zbr,zbs,zbt,zbu,zbv,zbw,zbx,zby,zbz,zca,zcb,zcc,zcd,zce,zcf,zcg,zch,zci,zcj,zck,zcl,zcm,zcn,zco,zcp,zcq,zcr,Nat.reduceEqDiff,Nat.reduceLT,Nat.reduceAdd,Nat.reduceSub,reduceIte,Kt_P,zcs,zct,zcu,zcv,zcw,zcx,zcy,zcz,zda,zdb,zdc,zdd,zde,zdf,zdg,zdh,zdi,zdj,zdk,reduceCtorEq,zdl,zdm,zdn,goInt,zdo,zdp,zdq,zdr,zds,zdt,zdu,zdv,zdw,zdx,zdy,zdz,zea,zeb,zec,zed,zdk,zee,zef,zeg,zeh,zei,zej,zek,zel,zem,zen,zeo,zep,zeq,zer,zes,zet,zeu,zev,zew,zex,zey,ya,yb,yc,yd,ye,yf,ts_int,ts_int64,ts_bool,ts_ints,ts_post,ts_posts,aPure,aLen]
  exact hq r A2 (Fr.trans hE hF fun b hb hc => by omega) hr
end Go.Sh
