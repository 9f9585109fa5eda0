/- What single functions do: lists copied. -/
import Derived.Test.YteoefjahcbfpeaaGreatSp0B
namespace Go.Sh
open Go Go.Proofs
set_option linter.unusedSimpArgs false
set_option maxRecDepth 4000
set_option maxHeartbeats 1000000

theorem fn_copyI : Kt.funcs 30 = some Tryz.f30 := by kernel_rfl

theorem copyI_ok (A : AHeap) (v : Value) (l : List Int) (h : Ints A v l) (hl : l.length ≤ 4000000) (Q : Value → AHeap → Prop)
    (hq : ∀ u A', Ext A A' → Acc A' 3 1 u l.length (ints l) → (∀ b, blockOf u b → A.next ≤ b) → Q u A') : Cal Kt 30 #[v] A Q := by
  refine Cal_of (nt := 19) (rs := [.tmp 2]) fn_copyI rfl rfl rfl (Nat.le_of_ble_eq_true rfl) ?_
  obtain ⟨o, c, hv, _, hin, hlen⟩ := h.opened
  subst hv
  simp only [zfd,zaa,zab,zac,zad,zae,zaf,zag,zah,zai,zaj,zak,zal,zam,zan,zao,zap,zaq,zar,zas,zat,zau,zav,zaw,zax,zay,zaz,zba,aUn,zbb,zbc,zbd,zbe,zbf,zbg,zbh,zbi,zbj,zbk,zbl,zbm,zbn,flat,simple,zbo,zbp,zbq,zbr,zbs,zbt,zbu,zbv,zbw,zbx,zby,zbz,zca,zcb,zcc,zcd,zce,zcf,zcg,zch,zci,zcj,zck,zcl,zcm,zcn,zco,zcp,zcq,zcr,Nat.reduceEqDiff,Nat.reduceLT,Nat.reduceAdd,Nat.reduceSub,reduceIte,Kt_P,zcs,zct,zcu,zcv,zcw,zcx,zcy,zcz,zda,zdb,zdc,zdd,zde,zdf,zdg,zdh,zdi,zdj,zdk,reduceCtorEq,zdl,zdm,zdn,goInt,zdo,zdp,zdq,zdr,zds,zdt,zdu,zdv,zdw,zdx,zdy,zdz,zea,zeb,zec,zed,zdk,zee,zef,zeg,zeh,zei,zej,zek,zel,zem,zen,zeo,zep,zeq,zer,zes,zet,zeu,zev,zew,zex,zey,ya,yb,yc,yd,ye,yf,ts_int,ts_int64,ts_bool,ts_ints,ts_post,ts_posts,yg,yh,yi,yj,yk,yl,ym,ts_intsl,ts_int64s,ts_bools,ts_side,ts_sideb,ts_pints,ts_pbool,aPure,aLen]
  refine Lop_inv (fun k e H => ∃ (i : Nat) (lv : Value), (e 0 = .slice o l.length c ∧ e 3 = lv ∧ e 4 = .int .i64 i) ∧ k = l.length - i ∧ i ≤ l.length ∧ Ext A H ∧ Acc H 3 1 lv i (ints (l.take i)) ∧ (∀ b, blockOf lv b → A.next ≤ b))
    ?_ l.length _ _ ⟨0, .slice none 0 0, by simp [put_at, argEnv], by simp, by simp, Fr.refl _ _, ⟨rfl, .inl ⟨rfl, rfl⟩⟩, fun b h => h.elim⟩
  rintro k e H ⟨i, lv, ⟨e0, e3, e4⟩, rfl, hi, hE, hP, hblk⟩
  have hAH := hE.next
  obtain ⟨o2, hlv, htl, _⟩ := hP.elems.opened
  subst hlv
  simp only [zfd,zaa,zab,zac,zad,zae,zaf,zag,zah,zai,zaj,zak,zal,zam,zan,zao,zap,zaq,zar,zas,zat,zau,zav,zaw,zax,zay,zaz,zba,aUn,zbb,zbc,zbd,zbe,zbf,zbg,zbh,zbi,zbj,zbk,zbl,zbm,zbn,flat,simple,zbo,zbp,zbq,zbr,zbs,zbt,zbu,zbv,zbw,zbx,zby,zbz,zca,zcb,zcc,zcd,zce,zcf,zcg,zch,zci,zcj,zck,zcl,zcm,zcn,zco,zcp,zcq,zcr,Nat.reduceEqDiff,Nat.reduceLT,Nat.reduceAdd,Nat.reduceSub,reduceIte,Kt_P,zcs,zct,zcu,zcv,zcw,zcx,zcy,zcz,zda,zdb,zdc,zdd,zde,zdf,zdg,zdh,zdi,zdj,zdk,reduceCtorEq,zdl,zdm,zdn,goInt,zdo,zdp,zdq,zdr,zds,zdt,zdu,zdv,zdw,zdx,zdy,zdz,zea,zeb,zec,zed,zdk,zee,zef,zeg,zeh,zei,zej,zek,zel,zem,zen,zeo,zep,zeq,zer,zes,zet,zeu,zev,zew,zex,zey,ya,yb,yc,yd,ye,yf,ts_int,ts_int64,ts_bool,ts_ints,ts_post,ts_posts,yg,yh,yi,yj,yk,yl,ym,ts_intsl,ts_int64s,ts_bools,ts_side,ts_sideb,ts_pints,ts_pbool,aPure,aLen,e0,e3,e4]
  refine Way_of (fun hlt => ?_) (fun hge => ?_)
  · obtain ⟨o', c', ho', hdat, _⟩ := (h.fr hE).opened
    cases ho'
    obtain ⟨b, hob, hd⟩ := hdat i hlt
    subst hob
    have ld := hd.int hlt
    have hws := wrap_succ hlt hlen
    simp only [zfd,zaa,zab,zac,zad,zae,zaf,zag,zah,zai,zaj,zak,zal,zam,zan,zao,zap,zaq,zar,zas,zat,zau,zav,zaw,zax,zay,zaz,zba,aUn,zbb,zbc,zbd,zbe,zbf,zbg,zbh,zbi,zbj,zbk,zbl,zbm,zbn,flat,simple,zbo,zbp,zbq,zbr,zbs,zbt,zbu,zbv,zbw,zbx,zby,zbz,zca,zcb,zcc,zcd,zce,zcf,zcg,zch,zci,zcj,zck,zcl,zcm,zcn,zco,zcp,zcq,zcr,Nat.reduceEqDiff,Nat.reduceLT,Nat.reduceAdd,Nat.reduceSub,reduceIte,Kt_P,zcs,zct,zcu,zcv,zcw,zcx,zcy,zcz,zda,zdb,zdc,zdd,zde,zdf,zdg,zdh,zdi,zdj,zdk,reduceCtorEq,zdl,zdm,zdn,goInt,zdo,zdp,zdq,zdr,zds,zdt,zdu,zdv,zdw,zdx,zdy,zdz,zea,zeb,zec,zed,zdk,zee,zef,zeg,zeh,zei,zej,zek,zel,zem,zen,zeo,zep,zeq,zer,zes,zet,zeu,zev,zew,zex,zey,ya,yb,yc,yd,ye,yf,ts_int,ts_int64,ts_bool,ts_ints,ts_post,ts_posts,yg,yh,yi,yj,yk,yl,ym,ts_intsl,ts_int64s,ts_bools,ts_side,ts_sideb,ts_pints,ts_pbool,aPure,aLen,e0,e3,e4,hlt,ld]
    refine OpW_buildSlice_of (cs := [.int .i64 l[i]]) Tryz.underlying59 ts_int tz_int (by decide) rfl rfl rfl fun q1 G1 hq1 hm3 hF3 hQ1 => ?_
    simp only [zfd,zaa,zab,zac,zad,zae,zaf,zag,zah,zai,zaj,zak,zal,zam,zan,zao,zap,zaq,zar,zas,zat,zau,zav,zaw,zax,zay,zaz,zba,aUn,zbb,zbc,zbd,zbe,zbf,zbg,zbh,zbi,zbj,zbk,zbl,zbm,zbn,flat,simple,zbo,zbp,zbq,zbr,zbs,zbt,zbu,zbv,zbw,zbx,zby,zbz,zca,zcb,zcc,zcd,zce,zcf,zcg,zch,zci,zcj,zck,zcl,zcm,zcn,zco,zcp,zcq,zcr,Nat.reduceEqDiff,Nat.reduceLT,Nat.reduceAdd,Nat.reduceSub,reduceIte,Kt_P,zcs,zct,zcu,zcv,zcw,zcx,zcy,zcz,zda,zdb,zdc,zdd,zde,zdf,zdg,zdh,zdi,zdj,zdk,reduceCtorEq,zdl,zdm,zdn,goInt,zdo,zdp,zdq,zdr,zds,zdt,zdu,zdv,zdw,zdx,zdy,zdz,zea,zeb,zec,zed,zdk,zee,zef,zeg,zeh,zei,zej,zek,zel,zem,zen,zeo,zep,zeq,zer,zes,zet,zeu,zev,zew,zex,zey,ya,yb,yc,yd,ye,yf,ts_int,ts_int64,ts_bool,ts_ints,ts_post,ts_posts,yg,yh,yi,yj,yk,yl,ym,ts_intsl,ts_int64s,ts_bools,ts_side,ts_sideb,ts_pints,ts_pbool,aPure,aLen]
    refine OpW_append_of (n := i) (k := 1) ⟨rfl, rfl⟩ Tryz.underlying59 (by rw [Kt_P, Tryz.underlying59]; rfl) ts_int tb_int tz_int (by simp only [zfd,zaa,zab,zac,zad,zae,zaf,zag,zah,zai,zaj,zak,zal,zam,zan,zao,zap,zaq,zar,zas,zat,zau,zav,zaw,zax,zay,zaz,zba,aUn,zbb,zbc,zbd,zbe,zbf,zbg,zbh,zbi,zbj,zbk,zbl,zbm,zbn,flat,simple,zbo,zbp,zbq,zbr,zbs,zbt,zbu,zbv,zbw,zbx,zby,zbz,zca,zcb,zcc,zcd,zce,zcf,zcg,zch,zci,zcj,zck,zcl,zcm,zcn,zco,zcp,zcq,zcr,Nat.reduceEqDiff,Nat.reduceLT,Nat.reduceAdd,Nat.reduceSub,reduceIte,Kt_P,zcs,zct,zcu,zcv,zcw,zcx,zcy,zcz,zda,zdb,zdc,zdd,zde,zdf,zdg,zdh,zdi,zdj,zdk,reduceCtorEq,zdl,zdm,zdn,goInt,zdo,zdp,zdq,zdr,zds,zdt,zdu,zdv,zdw,zdx,zdy,zdz,zea,zeb,zec,zed,zdk,zee,zef,zeg,zeh,zei,zej,zek,zel,zem,zen,zeo,zep,zeq,zer,zes,zet,zeu,zev,zew,zex,zey,ya,yb,yc,yd,ye,yf,ts_int,ts_int64,ts_bool,ts_ints,ts_post,ts_posts,yg,yh,yi,yj,yk,yl,ym,ts_intsl,ts_int64s,ts_bools,ts_side,ts_sideb,ts_pints,ts_pbool,aPure,aLen]; exact aSrc_box hQ1 rfl) ⟨rfl, rfl⟩ (by omega)
      ⟨by omega, rfl, by omega, by omega⟩ (hP.fr hF3 fun _ _ h => h) fun q2 G2 hq2 hm4 hF4 hA4 => ?_
    simp only [zfd,zaa,zab,zac,zad,zae,zaf,zag,zah,zai,zaj,zak,zal,zam,zan,zao,zap,zaq,zar,zas,zat,zau,zav,zaw,zax,zay,zaz,zba,aUn,zbb,zbc,zbd,zbe,zbf,zbg,zbh,zbi,zbj,zbk,zbl,zbm,zbn,flat,simple,zbo,zbp,zbq,zbr,zbs,zbt,zbu,zbv,zbw,zbx,zby,zbz,zca,zcb,zcc,zcd,zce,zcf,zcg,zch,zci,zcj,zck,zcl,zcm,zcn,zco,zcp,zcq,zcr,Nat.reduceEqDiff,Nat.reduceLT,Nat.reduceAdd,Nat.reduceSub,reduceIte,Kt_P,zcs,zct,zcu,zcv,zcw,zcx,zcy,zcz,zda,zdb,zdc,zdd,zde,zdf,zdg,zdh,zdi,zdj,zdk,reduceCtorEq,zdl,zdm,zdn,goInt,zdo,zdp,zdq,zdr,zds,zdt,zdu,zdv,zdw,zdx,zdy,zdz,zea,zeb,zec,zed,zdk,zee,zef,zeg,zeh,zei,zej,zek,zel,zem,zen,zeo,zep,zeq,zer,zes,zet,zeu,zev,zew,zex,zey,ya,yb,yc,yd,ye,yf,ts_int,ts_int64,ts_bool,ts_ints,ts_post,ts_posts,yg,yh,yi,yj,yk,yl,ym,ts_intsl,ts_int64s,ts_bools,ts_side,ts_sideb,ts_pints,ts_pbool,aPure,aLen,e4,hws] at hF4 hA4 ⊢
    have ks : l.take (i + 1) = l.take i ++ [l[i]] := List.take_succ_eq_append_getElem hlt
    refine ⟨l.length - (i + 1), by omega, i + 1, .slice (some ⟨q2, 0, none⟩) (i + 1) (i + 1), by simp [put_at, e0], rfl, by omega, (Fr.trans hE hF3 fun _ _ h => h).trans hF4 fun b hb hc => by have := hblk b hc; omega, ?_, fun b hb => ?_⟩
    · rw [ks]
      unfold ints at hA4 ⊢
      rw [List.map_append]
      exact hA4
    · simp only [blockOf] at hb
      omega
  · have : i = l.length := by omega
    subst this
    simp only [zfd,zaa,zab,zac,zad,zae,zaf,zag,zah,zai,zaj,zak,zal,zam,zan,zao,zap,zaq,zar,zas,zat,zau,zav,zaw,zax,zay,zaz,zba,aUn,zbb,zbc,zbd,zbe,zbf,zbg,zbh,zbi,zbj,zbk,zbl,zbm,zbn,flat,simple,zbo,zbp,zbq,zbr,zbs,zbt,zbu,zbv,zbw,zbx,zby,zbz,zca,zcb,zcc,zcd,zce,zcf,zcg,zch,zci,zcj,zck,zcl,zcm,zcn,zco,zcp,zcq,zcr,Nat.reduceEqDiff,Nat.reduceLT,Nat.reduceAdd,Nat.reduceSub,reduceIte,Kt_P,zcs,zct,zcu,zcv,zcw,zcx,zcy,zcz,zda,zdb,zdc,zdd,zde,zdf,zdg,zdh,zdi,zdj,zdk,reduceCtorEq,zdl,zdm,zdn,goInt,zdo,zdp,zdq,zdr,zds,zdt,zdu,zdv,zdw,zdx,zdy,zdz,zea,zeb,zec,zed,zdk,zee,zef,zeg,zeh,zei,zej,zek,zel,zem,zen,zeo,zep,zeq,zer,zes,zet,zeu,zev,zew,zex,zey,ya,yb,yc,yd,ye,yf,ts_int,ts_int64,ts_bool,ts_ints,ts_post,ts_posts,yg,yh,yi,yj,yk,yl,ym,ts_intsl,ts_int64s,ts_bools,ts_side,ts_sideb,ts_pints,ts_pbool,aPure,aLen,e3]
    rw [List.take_length] at hP
    exact hq _ H hE hP hblk

theorem Acc.ints {A : AHeap} {u : Value} {l : List Int} (h : Acc A 3 1 u l.length (ints l)) (hin : ∀ x ∈ l, inI64 x) (hl : (l.length : Int) < 9223372036854775808) : Ints A u l := ⟨h.elems.c, hin, hl⟩

/-- Posts of one's own: the list's block, and each post's places' block, came after b0. -/
def PNew (b0 : Nat) (A : AHeap) (v : Value) (l : List PostL) : Prop :=
  ∃ vs : List Value, vs.length = l.length ∧ Acc A 61 2 v l.length (postCells l vs) ∧ (∀ b, blockOf v b → b0 ≤ b) ∧
    ∀ (i : Nat) (h : i < l.length) (h' : i < vs.length), Acc A 3 1 vs[i] l[i].2.length (ints l[i].2) ∧ (∀ x ∈ l[i].2, inI64 x) ∧ (l[i].2.length : Int) < 9223372036854775808 ∧ inI64 l[i].1 ∧ ∀ b, blockOf vs[i] b → b0 ≤ b ∧ ¬ blockOf v b
theorem PNew.posts {b0 : Nat} {A : AHeap} {v : Value} {l : List PostL} (h : PNew b0 A v l) (hl : (l.length : Int) < 9223372036854775808) : Posts A v l :=
  let ⟨vs, h1, h2, _, h3⟩ := h; ⟨vs, h1, h2.elems.c, fun i k k' => ⟨⟨(h3 i k k').1.elems.c, (h3 i k k').2.1, (h3 i k k').2.2.1⟩, (h3 i k k').2.2.2.1⟩, hl⟩

theorem PNew.at {b0 : Nat} {A : AHeap} {v : Value} {l : List PostL} (h : PNew b0 A v l) : ∃ o, v = .slice o l.length l.length :=
  let ⟨_, _, h2, _⟩ := h; h2.at
end Go.Sh
