/- The law: any posts as bytes, or the error and its place. -/
import Derived.Test.YteoefjahcbfpeaaDoorSpRn
import Derived.Test.YteoefjahcbfpeaaDoorSpKp
import Derived.Test.YteoefjahcbfpeaaDoorSpY
import Derived.Test.YteoefjahcbfpeaaDoorSkC
namespace Go.Sh
open Go Go.Proofs
set_option linter.unusedSimpArgs false
set_option linter.unusedVariables false
set_option maxRecDepth 4000
set_option maxHeartbeats 4000000

theorem fn_encodes : Kt.funcs 3 = some Tryd.f3 := by kernel_rfl
theorem Posts.memE {A : AHeap} {v : Value} {l : List PostL} (h : Posts A v l) : ∀ p ∈ l, inI64 p.1 ∧ ∀ x ∈ p.2, inI64 x := by
  intro p hp
  obtain ⟨i, hi, rfl⟩ := List.getElem_of_mem hp
  obtain ⟨vs, h0, _, h2, _⟩ := h
  obtain ⟨h3, h4⟩ := h2 i hi (by omega)
  exact ⟨h4, h3.2.1⟩
theorem wfs_docsUpE {l : List PostL} (h : wfs l) (hI : ∀ p ∈ l, inI64 p.1 ∧ ∀ x ∈ p.2, inI64 x) : docsUp true 0 l := by
  obtain ⟨h1, h2⟩ := (wfs_iff l).1 h
  refine docsUp_of l true 0 (fun p hp => ?_) h1
  obtain ⟨k1, k2⟩ := hI p hp
  obtain ⟨k3, k4⟩ := (rises_iff p.2).1 (h2 p hp)
  unfold inI64 at k1
  refine ⟨fun h => absurd h (by simp), k1.1, by omega, placesUp_of (fun x hx => ?_) k4⟩
  have h5 := k2 x hx
  unfold inI64 at h5
  have := k3 x hx
  omega
theorem encD_sum : ∀ (l : List PostL) (b : Bool) (d : Int), -9223372036854775808 ≤ d → docsUp b d l → (∀ p ∈ l, p.2.length ≤ 1000000) → (encD b d l).length ≤ 20 * l.length + 10 * (l.map fun p => p.2.length).sum
  | [], _, _, _, _, _ => Nat.zero_le _
  | p :: l, b, d, hd, ⟨h1, h2, h3, h4, h5⟩, hN2 => by
    have ih := encD_sum l false p.1 h2 h5 fun q hq => hN2 q (List.mem_cons_of_mem _ hq)
    have hz : 0 ≤ zigN p.1 ∧ zigN p.1 < 18446744073709551616 := by unfold zigN; split <;> omega
    have k1 := uintL_10 (n := if b then (zigN p.1).toNat else (p.1 - d).toNat) (by
      cases b with
      | true => simp only [if_true]; omega
      | false => have := h1 rfl; simp only [Bool.false_eq_true,if_false]; omega)
    have hp := hN2 p List.mem_cons_self
    have k2 := uintL_10 (n := p.2.length) (by omega)
    have k3 := encP_10' h4
    rw [encD]
    simp only [List.length_append,List.length_cons,List.map_cons,List.sum_cons]
    omega
theorem encL_few {l : List PostL} (h : docsUp true 0 l) (ht : tot l ≤ 4096) : (encL l).length ≤ 1000000 := by
  have k1 := uintL_10 (n := l.length) (by have := tot_len l; omega)
  have k2 := encD_sum l true 0 (by omega) h fun p hp => by have := tot_places p hp; omega
  unfold tot at ht
  unfold encL
  rw [List.length_append]
  omega

theorem encodeBad_ok (A : AHeap) (v : Value) (l : List PostL) (h : Posts A v l) (hw : ¬ wfs l) (Q : Value → AHeap → Prop)
    (hq : ∀ (i : Nat) A', Ext A A' → i < l.length → ¬ okAt l i → (∀ j, j < i → okAt l j) → Q (.tuple #[.string ⟨#[]⟩, errF 1 0 i]) A') : Cal Kt 7 #[v] A Q := by
  refine Cal_of (nt := 72) (rs := [.tmp 2, .tmp 3]) fn_encode rfl rfl rfl (Nat.le_of_ble_eq_true rfl) ?_
  simp only [zaa,zab,zac,zad,zae,zaf,zag,zah,zai,zaj,zak,zal,zam,zan,zao,zap,zaq,zar,zas,zat,zau,zav,zaw,zax,zay,zaz,zba,aUn,zbb,zbc,zbd,zbe,zbf,zbg,zbh,zbi,zbj,zbk,zbl,zbm,zbn,flat,simple,zbo,zbp,zbq,zbr,zbs,zbt,zbu,zbv,zbw,zbx,zby,zbz,zca,zcb,zcc,zcd,zce,zcf,zcg,zch,zci,zcj,zck,zcl,zcm,zcn,zco,zcp,zcq,zcr,Nat.reduceEqDiff,Nat.reduceLT,Nat.reduceAdd,Nat.reduceSub,reduceIte,Kt_P,zcs,zct,zcu,zcv,zcw,zcx,zcy,zcz,zda,zdb,zdc,zdd,zde,zdf,zdg,zdh,zdi,zdj,zdk,reduceCtorEq,zdl,zdm,zdn,goInt,zdo,zdp,zdq,zdr,zds,zdt,zdu,zdv,zdw,zdx,zdy,zdz,zea,zeb,zec,zed,zdk,zee,zef,zeg,zeh,zei,zej,zek,zel,zem,zen,zeo,zep,zeq,zer,zes,zet,zeu,zev,zew,zex,zey,ya,yb,yc,yd,ye,yf,ts_int,ts_int64,ts_bool,ts_ints,ts_post,ts_posts,yg,yh,yi,yj,yk,yl,ym,ts_intsl,ts_int64s,ts_bools,ts_side,ts_sideb,ts_pints,ts_pbool,aPure,aLen,ywa,ywb,ywc,ywd,ywe,ywf,ywg,ywh,ywi,ywj,ywk,ywl,ywm,ywn,ywo,ts_string,ts_u8,ts_u64,ts_error,ts_bytes,ts_arr,ts_reader,ts_pbuilder,ts_builder,cv_64_8,cv_8_64,cv_64_i64,cv_i64_64,cv_64_int,cv_int_64,errV_0]
  rw [CalF_cal (Kt_prim (by decide) _ _)]
  refine wrong_ok A v l h _ fun r A1 hE1 hr => ?_
  rcases hr with ⟨rfl, wa⟩ | ⟨i, rfl, hi, hbad, hj⟩
  · exact absurd wa hw
  · have hb : aBuild Tryd.prog 49 [(0, .int .i64 1), (2, .int .i64 i)] = some (.agg #[.int .i64 1, .int .i64 0, .int .i64 i]) := by kernel_rfl
    simp only [zaa,zab,zac,zad,zae,zaf,zag,zah,zai,zaj,zak,zal,zam,zan,zao,zap,zaq,zar,zas,zat,zau,zav,zaw,zax,zay,zaz,zba,aUn,zbb,zbc,zbd,zbe,zbf,zbg,zbh,zbi,zbj,zbk,zbl,zbm,zbn,flat,simple,zbo,zbp,zbq,zbr,zbs,zbt,zbu,zbv,zbw,zbx,zby,zbz,zca,zcb,zcc,zcd,zce,zcf,zcg,zch,zci,zcj,zck,zcl,zcm,zcn,zco,zcp,zcq,zcr,Nat.reduceEqDiff,Nat.reduceLT,Nat.reduceAdd,Nat.reduceSub,reduceIte,Kt_P,zcs,zct,zcu,zcv,zcw,zcx,zcy,zcz,zda,zdb,zdc,zdd,zde,zdf,zdg,zdh,zdi,zdj,zdk,reduceCtorEq,zdl,zdm,zdn,goInt,zdo,zdp,zdq,zdr,zds,zdt,zdu,zdv,zdw,zdx,zdy,zdz,zea,zeb,zec,zed,zdk,zee,zef,zeg,zeh,zei,zej,zek,zel,zem,zen,zeo,zep,zeq,zer,zes,zet,zeu,zev,zew,zex,zey,ya,yb,yc,yd,ye,yf,ts_int,ts_int64,ts_bool,ts_ints,ts_post,ts_posts,yg,yh,yi,yj,yk,yl,ym,ts_intsl,ts_int64s,ts_bools,ts_side,ts_sideb,ts_pints,ts_pbool,aPure,aLen,ywa,ywb,ywc,ywd,ywe,ywf,ywg,ywh,ywi,ywj,ywk,ywl,ywm,ywn,ywo,ts_string,ts_u8,ts_u64,ts_error,ts_bytes,ts_arr,ts_reader,ts_pbuilder,ts_builder,cv_64_8,cv_8_64,cv_64_i64,cv_i64_64,cv_64_int,cv_int_64,errV_0,hb,Tryd.underlying49]
    exact hq i A1 hE1 hi hbad hj
theorem first_one {l : List PostL} {i j : Nat} (h1 : ¬ okAt l i) (h2 : ∀ k, k < i → okAt l k) (h3 : ¬ okAt l j) (h4 : ∀ k, k < j → okAt l k) : i = j := by
  rcases Nat.lt_trichotomy i j with h | h | h
  · exact absurd (h4 i h) h1
  · exact h
  · exact absurd (h2 j h) h3
theorem str_eql (s t : ByteArray) (c : Bool) : aBin Tryd.prog .eql 9 c (.string s) (.string t) = some (.bool (s.toList == t.toList)) := rfl

theorem encodes_ok (A : AHeap) (v : Value) (l : List PostL) (h : Posts A v l) (hp : ∀ p ∈ l, p.2.length ≤ 100000000000000) (Q : Value → AHeap → Prop)
    (hq : ∀ A', Q (.bool true) A') : Cal Kt 3 #[v] A Q := by
  refine Cal_of (nt := 78) (rs := [.tmp 2]) fn_encodes rfl rfl rfl (Nat.le_of_ble_eq_true rfl) ?_
  simp only [zaa,zab,zac,zad,zae,zaf,zag,zah,zai,zaj,zak,zal,zam,zan,zao,zap,zaq,zar,zas,zat,zau,zav,zaw,zax,zay,zaz,zba,aUn,zbb,zbc,zbd,zbe,zbf,zbg,zbh,zbi,zbj,zbk,zbl,zbm,zbn,flat,simple,zbo,zbp,zbq,zbr,zbs,zbt,zbu,zbv,zbw,zbx,zby,zbz,zca,zcb,zcc,zcd,zce,zcf,zcg,zch,zci,zcj,zck,zcl,zcm,zcn,zco,zcp,zcq,zcr,Nat.reduceEqDiff,Nat.reduceLT,Nat.reduceAdd,Nat.reduceSub,reduceIte,Kt_P,zcs,zct,zcu,zcv,zcw,zcx,zcy,zcz,zda,zdb,zdc,zdd,zde,zdf,zdg,zdh,zdi,zdj,zdk,reduceCtorEq,zdl,zdm,zdn,goInt,zdo,zdp,zdq,zdr,zds,zdt,zdu,zdv,zdw,zdx,zdy,zdz,zea,zeb,zec,zed,zdk,zee,zef,zeg,zeh,zei,zej,zek,zel,zem,zen,zeo,zep,zeq,zer,zes,zet,zeu,zev,zew,zex,zey,ya,yb,yc,yd,ye,yf,ts_int,ts_int64,ts_bool,ts_ints,ts_post,ts_posts,yg,yh,yi,yj,yk,yl,ym,ts_intsl,ts_int64s,ts_bools,ts_side,ts_sideb,ts_pints,ts_pbool,aPure,aLen,ywa,ywb,ywc,ywd,ywe,ywf,ywg,ywh,ywi,ywj,ywk,ywl,ywm,ywn,ywo,ts_string,ts_u8,ts_u64,ts_error,ts_bytes,ts_arr,ts_reader,ts_pbuilder,ts_builder,cv_64_8,cv_8_64,cv_64_i64,cv_i64_64,cv_64_int,cv_int_64,errV_0]
  rw [CalF_cal (Kt_prim (by decide) _ _)]
  refine few_ok A v l h hp _ fun b1 hb1 => ?_
  cases b1 with
  | false => 
    simp only [zaa,zab,zac,zad,zae,zaf,zag,zah,zai,zaj,zak,zal,zam,zan,zao,zap,zaq,zar,zas,zat,zau,zav,zaw,zax,zay,zaz,zba,aUn,zbb,zbc,zbd,zbe,zbf,zbg,zbh,zbi,zbj,zbk,zbl,zbm,zbn,flat,simple,zbo,zbp,zbq,zbr,zbs,zbt,zbu,zbv,zbw,zbx,zby,zbz,zca,zcb,zcc,zcd,zce,zcf,zcg,zch,zci,zcj,zck,zcl,zcm,zcn,zco,zcp,zcq,zcr,Nat.reduceEqDiff,Nat.reduceLT,Nat.reduceAdd,Nat.reduceSub,reduceIte,Kt_P,zcs,zct,zcu,zcv,zcw,zcx,zcy,zcz,zda,zdb,zdc,zdd,zde,zdf,zdg,zdh,zdi,zdj,zdk,reduceCtorEq,zdl,zdm,zdn,goInt,zdo,zdp,zdq,zdr,zds,zdt,zdu,zdv,zdw,zdx,zdy,zdz,zea,zeb,zec,zed,zdk,zee,zef,zeg,zeh,zei,zej,zek,zel,zem,zen,zeo,zep,zeq,zer,zes,zet,zeu,zev,zew,zex,zey,ya,yb,yc,yd,ye,yf,ts_int,ts_int64,ts_bool,ts_ints,ts_post,ts_posts,yg,yh,yi,yj,yk,yl,ym,ts_intsl,ts_int64s,ts_bools,ts_side,ts_sideb,ts_pints,ts_pbool,aPure,aLen,ywa,ywb,ywc,ywd,ywe,ywf,ywg,ywh,ywi,ywj,ywk,ywl,ywm,ywn,ywo,ts_string,ts_u8,ts_u64,ts_error,ts_bytes,ts_arr,ts_reader,ts_pbuilder,ts_builder,cv_64_8,cv_8_64,cv_64_i64,cv_i64_64,cv_64_int,cv_int_64,errV_0]
    exact hq _
  | true =>
  replace hb1 := hb1 rfl
  have ll := tot_len l
  have pl : ∀ p ∈ l, p.2.length ≤ 4096 := fun p hp => Nat.le_trans (tot_places p hp) hb1
  simp only [zaa,zab,zac,zad,zae,zaf,zag,zah,zai,zaj,zak,zal,zam,zan,zao,zap,zaq,zar,zas,zat,zau,zav,zaw,zax,zay,zaz,zba,aUn,zbb,zbc,zbd,zbe,zbf,zbg,zbh,zbi,zbj,zbk,zbl,zbm,zbn,flat,simple,zbo,zbp,zbq,zbr,zbs,zbt,zbu,zbv,zbw,zbx,zby,zbz,zca,zcb,zcc,zcd,zce,zcf,zcg,zch,zci,zcj,zck,zcl,zcm,zcn,zco,zcp,zcq,zcr,Nat.reduceEqDiff,Nat.reduceLT,Nat.reduceAdd,Nat.reduceSub,reduceIte,Kt_P,zcs,zct,zcu,zcv,zcw,zcx,zcy,zcz,zda,zdb,zdc,zdd,zde,zdf,zdg,zdh,zdi,zdj,zdk,reduceCtorEq,zdl,zdm,zdn,goInt,zdo,zdp,zdq,zdr,zds,zdt,zdu,zdv,zdw,zdx,zdy,zdz,zea,zeb,zec,zed,zdk,zee,zef,zeg,zeh,zei,zej,zek,zel,zem,zen,zeo,zep,zeq,zer,zes,zet,zeu,zev,zew,zex,zey,ya,yb,yc,yd,ye,yf,ts_int,ts_int64,ts_bool,ts_ints,ts_post,ts_posts,yg,yh,yi,yj,yk,yl,ym,ts_intsl,ts_int64s,ts_bools,ts_side,ts_sideb,ts_pints,ts_pbool,aPure,aLen,ywa,ywb,ywc,ywd,ywe,ywf,ywg,ywh,ywi,ywj,ywk,ywl,ywm,ywn,ywo,ts_string,ts_u8,ts_u64,ts_error,ts_bytes,ts_arr,ts_reader,ts_pbuilder,ts_builder,cv_64_8,cv_8_64,cv_64_i64,cv_i64_64,cv_64_int,cv_int_64,errV_0]
  rw [CalF_cal (Kt_prim (by decide) _ _)]
  refine lentP_ok A v l h (by omega) (fun p hp => by have := pl p hp; omega) _ fun va A1 ua hE1 hL1 => ?_
  have hnilstr : (⟨#[]⟩ : ByteArray).toList = [] := by rw [toList_bl]; rfl
  by_cases hw : wfs l
  · have hlen := encL_few (wfs_docsUpE hw h.memE) hb1
    simp only [zaa,zab,zac,zad,zae,zaf,zag,zah,zai,zaj,zak,zal,zam,zan,zao,zap,zaq,zar,zas,zat,zau,zav,zaw,zax,zay,zaz,zba,aUn,zbb,zbc,zbd,zbe,zbf,zbg,zbh,zbi,zbj,zbk,zbl,zbm,zbn,flat,simple,zbo,zbp,zbq,zbr,zbs,zbt,zbu,zbv,zbw,zbx,zby,zbz,zca,zcb,zcc,zcd,zce,zcf,zcg,zch,zci,zcj,zck,zcl,zcm,zcn,zco,zcp,zcq,zcr,Nat.reduceEqDiff,Nat.reduceLT,Nat.reduceAdd,Nat.reduceSub,reduceIte,Kt_P,zcs,zct,zcu,zcv,zcw,zcx,zcy,zcz,zda,zdb,zdc,zdd,zde,zdf,zdg,zdh,zdi,zdj,zdk,reduceCtorEq,zdl,zdm,zdn,goInt,zdo,zdp,zdq,zdr,zds,zdt,zdu,zdv,zdw,zdx,zdy,zdz,zea,zeb,zec,zed,zdk,zee,zef,zeg,zeh,zei,zej,zek,zel,zem,zen,zeo,zep,zeq,zer,zes,zet,zeu,zev,zew,zex,zey,ya,yb,yc,yd,ye,yf,ts_int,ts_int64,ts_bool,ts_ints,ts_post,ts_posts,yg,yh,yi,yj,yk,yl,ym,ts_intsl,ts_int64s,ts_bools,ts_side,ts_sideb,ts_pints,ts_pbool,aPure,aLen,ywa,ywb,ywc,ywd,ywe,ywf,ywg,ywh,ywi,ywj,ywk,ywl,ywm,ywn,ywo,ts_string,ts_u8,ts_u64,ts_error,ts_bytes,ts_arr,ts_reader,ts_pbuilder,ts_builder,cv_64_8,cv_8_64,cv_64_i64,cv_i64_64,cv_64_int,cv_int_64,errV_0]
    rw [CalF_cal (Kt_prim (by decide) _ _)]
    refine encode_ok A1 va l hL1.posts hw hlen _ fun s A2 hE2 hs => ?_
    simp only [zaa,zab,zac,zad,zae,zaf,zag,zah,zai,zaj,zak,zal,zam,zan,zao,zap,zaq,zar,zas,zat,zau,zav,zaw,zax,zay,zaz,zba,aUn,zbb,zbc,zbd,zbe,zbf,zbg,zbh,zbi,zbj,zbk,zbl,zbm,zbn,flat,simple,zbo,zbp,zbq,zbr,zbs,zbt,zbu,zbv,zbw,zbx,zby,zbz,zca,zcb,zcc,zcd,zce,zcf,zcg,zch,zci,zcj,zck,zcl,zcm,zcn,zco,zcp,zcq,zcr,Nat.reduceEqDiff,Nat.reduceLT,Nat.reduceAdd,Nat.reduceSub,reduceIte,Kt_P,zcs,zct,zcu,zcv,zcw,zcx,zcy,zcz,zda,zdb,zdc,zdd,zde,zdf,zdg,zdh,zdi,zdj,zdk,reduceCtorEq,zdl,zdm,zdn,goInt,zdo,zdp,zdq,zdr,zds,zdt,zdu,zdv,zdw,zdx,zdy,zdz,zea,zeb,zec,zed,zdk,zee,zef,zeg,zeh,zei,zej,zek,zel,zem,zen,zeo,zep,zeq,zer,zes,zet,zeu,zev,zew,zex,zey,ya,yb,yc,yd,ye,yf,ts_int,ts_int64,ts_bool,ts_ints,ts_post,ts_posts,yg,yh,yi,yj,yk,yl,ym,ts_intsl,ts_int64s,ts_bools,ts_side,ts_sideb,ts_pints,ts_pbool,aPure,aLen,ywa,ywb,ywc,ywd,ywe,ywf,ywg,ywh,ywi,ywj,ywk,ywl,ywm,ywn,ywo,ts_string,ts_u8,ts_u64,ts_error,ts_bytes,ts_arr,ts_reader,ts_pbuilder,ts_builder,cv_64_8,cv_8_64,cv_64_i64,cv_i64_64,cv_64_int,cv_int_64,errV_0]
    rw [CalF_cal (Kt_prim (by decide) _ _)]
    refine keptP_ok A2 va v l ua (hL1.fr hE2 fun _ _ _ h => h) ((h.fr hE1).fr hE2) _ fun A3 hE3 => ?_
    simp only [zaa,zab,zac,zad,zae,zaf,zag,zah,zai,zaj,zak,zal,zam,zan,zao,zap,zaq,zar,zas,zat,zau,zav,zaw,zax,zay,zaz,zba,aUn,zbb,zbc,zbd,zbe,zbf,zbg,zbh,zbi,zbj,zbk,zbl,zbm,zbn,flat,simple,zbo,zbp,zbq,zbr,zbs,zbt,zbu,zbv,zbw,zbx,zby,zbz,zca,zcb,zcc,zcd,zce,zcf,zcg,zch,zci,zcj,zck,zcl,zcm,zcn,zco,zcp,zcq,zcr,Nat.reduceEqDiff,Nat.reduceLT,Nat.reduceAdd,Nat.reduceSub,reduceIte,Kt_P,zcs,zct,zcu,zcv,zcw,zcx,zcy,zcz,zda,zdb,zdc,zdd,zde,zdf,zdg,zdh,zdi,zdj,zdk,reduceCtorEq,zdl,zdm,zdn,goInt,zdo,zdp,zdq,zdr,zds,zdt,zdu,zdv,zdw,zdx,zdy,zdz,zea,zeb,zec,zed,zdk,zee,zef,zeg,zeh,zei,zej,zek,zel,zem,zen,zeo,zep,zeq,zer,zes,zet,zeu,zev,zew,zex,zey,ya,yb,yc,yd,ye,yf,ts_int,ts_int64,ts_bool,ts_ints,ts_post,ts_posts,yg,yh,yi,yj,yk,yl,ym,ts_intsl,ts_int64s,ts_bools,ts_side,ts_sideb,ts_pints,ts_pbool,aPure,aLen,ywa,ywb,ywc,ywd,ywe,ywf,ywg,ywh,ywi,ywj,ywk,ywl,ywm,ywn,ywo,ts_string,ts_u8,ts_u64,ts_error,ts_bytes,ts_arr,ts_reader,ts_pbuilder,ts_builder,cv_64_8,cv_8_64,cv_64_i64,cv_i64_64,cv_64_int,cv_int_64,errV_0]
    rw [CalF_cal (Kt_prim (by decide) _ _)]
    refine encode_ok A3 va l (((hL1.fr hE2 fun _ _ _ h => h).fr hE3 fun _ _ _ h => h).posts) hw hlen _ fun t A4 hE4 ht => ?_
    simp only [zaa,zab,zac,zad,zae,zaf,zag,zah,zai,zaj,zak,zal,zam,zan,zao,zap,zaq,zar,zas,zat,zau,zav,zaw,zax,zay,zaz,zba,aUn,zbb,zbc,zbd,zbe,zbf,zbg,zbh,zbi,zbj,zbk,zbl,zbm,zbn,flat,simple,zbo,zbp,zbq,zbr,zbs,zbt,zbu,zbv,zbw,zbx,zby,zbz,zca,zcb,zcc,zcd,zce,zcf,zcg,zch,zci,zcj,zck,zcl,zcm,zcn,zco,zcp,zcq,zcr,Nat.reduceEqDiff,Nat.reduceLT,Nat.reduceAdd,Nat.reduceSub,reduceIte,Kt_P,zcs,zct,zcu,zcv,zcw,zcx,zcy,zcz,zda,zdb,zdc,zdd,zde,zdf,zdg,zdh,zdi,zdj,zdk,reduceCtorEq,zdl,zdm,zdn,goInt,zdo,zdp,zdq,zdr,zds,zdt,zdu,zdv,zdw,zdx,zdy,zdz,zea,zeb,zec,zed,zdk,zee,zef,zeg,zeh,zei,zej,zek,zel,zem,zen,zeo,zep,zeq,zer,zes,zet,zeu,zev,zew,zex,zey,ya,yb,yc,yd,ye,yf,ts_int,ts_int64,ts_bool,ts_ints,ts_post,ts_posts,yg,yh,yi,yj,yk,yl,ym,ts_intsl,ts_int64s,ts_bools,ts_side,ts_sideb,ts_pints,ts_pbool,aPure,aLen,ywa,ywb,ywc,ywd,ywe,ywf,ywg,ywh,ywi,ywj,ywk,ywl,ywm,ywn,ywo,ts_string,ts_u8,ts_u64,ts_error,ts_bytes,ts_arr,ts_reader,ts_pbuilder,ts_builder,cv_64_8,cv_8_64,cv_64_i64,cv_i64_64,cv_64_int,cv_int_64,errV_0]
    rw [CalF_cal (Kt_prim (by decide) _ _)]
    refine refEncode_ok A4 v l ((((h.fr hE1).fr hE2).fr hE3).fr hE4) (by omega) (fun p hp => by have := pl p hp; omega) _ (fun w A5 hE5 _ hw2 => ?_) fun i A5 hE5 hi hbad _ => absurd (hw i) hbad
    have e1 : (s.toList == w.toList) = true := by rw [toList_bl, toList_bl, hs, hw2]; simp
    have e2 : (t.toList == w.toList) = true := by rw [toList_bl, toList_bl, ht, hw2]; simp
    have e0 := err_eql 0
    simp only [errV,if_true] at e0
    simp only [zaa,zab,zac,zad,zae,zaf,zag,zah,zai,zaj,zak,zal,zam,zan,zao,zap,zaq,zar,zas,zat,zau,zav,zaw,zax,zay,zaz,zba,aUn,zbb,zbc,zbd,zbe,zbf,zbg,zbh,zbi,zbj,zbk,zbl,zbm,zbn,flat,simple,zbo,zbp,zbq,zbr,zbs,zbt,zbu,zbv,zbw,zbx,zby,zbz,zca,zcb,zcc,zcd,zce,zcf,zcg,zch,zci,zcj,zck,zcl,zcm,zcn,zco,zcp,zcq,zcr,Nat.reduceEqDiff,Nat.reduceLT,Nat.reduceAdd,Nat.reduceSub,reduceIte,Kt_P,zcs,zct,zcu,zcv,zcw,zcx,zcy,zcz,zda,zdb,zdc,zdd,zde,zdf,zdg,zdh,zdi,zdj,zdk,reduceCtorEq,zdl,zdm,zdn,goInt,zdo,zdp,zdq,zdr,zds,zdt,zdu,zdv,zdw,zdx,zdy,zdz,zea,zeb,zec,zed,zdk,zee,zef,zeg,zeh,zei,zej,zek,zel,zem,zen,zeo,zep,zeq,zer,zes,zet,zeu,zev,zew,zex,zey,ya,yb,yc,yd,ye,yf,ts_int,ts_int64,ts_bool,ts_ints,ts_post,ts_posts,yg,yh,yi,yj,yk,yl,ym,ts_intsl,ts_int64s,ts_bools,ts_side,ts_sideb,ts_pints,ts_pbool,aPure,aLen,ywa,ywb,ywc,ywd,ywe,ywf,ywg,ywh,ywi,ywj,ywk,ywl,ywm,ywn,ywo,ts_string,ts_u8,ts_u64,ts_error,ts_bytes,ts_arr,ts_reader,ts_pbuilder,ts_builder,cv_64_8,cv_8_64,cv_64_i64,cv_i64_64,cv_64_int,cv_int_64,errV_0,str_eql,e1,e2,e0,not_true_eq_false,ne_eq]
    refine CalF_prim (works_prim _) ?_
    simp only [zaa,zab,zac,zad,zae,zaf,zag,zah,zai,zaj,zak,zal,zam,zan,zao,zap,zaq,zar,zas,zat,zau,zav,zaw,zax,zay,zaz,zba,aUn,zbb,zbc,zbd,zbe,zbf,zbg,zbh,zbi,zbj,zbk,zbl,zbm,zbn,flat,simple,zbo,zbp,zbq,zbr,zbs,zbt,zbu,zbv,zbw,zbx,zby,zbz,zca,zcb,zcc,zcd,zce,zcf,zcg,zch,zci,zcj,zck,zcl,zcm,zcn,zco,zcp,zcq,zcr,Nat.reduceEqDiff,Nat.reduceLT,Nat.reduceAdd,Nat.reduceSub,reduceIte,Kt_P,zcs,zct,zcu,zcv,zcw,zcx,zcy,zcz,zda,zdb,zdc,zdd,zde,zdf,zdg,zdh,zdi,zdj,zdk,reduceCtorEq,zdl,zdm,zdn,goInt,zdo,zdp,zdq,zdr,zds,zdt,zdu,zdv,zdw,zdx,zdy,zdz,zea,zeb,zec,zed,zdk,zee,zef,zeg,zeh,zei,zej,zek,zel,zem,zen,zeo,zep,zeq,zer,zes,zet,zeu,zev,zew,zex,zey,ya,yb,yc,yd,ye,yf,ts_int,ts_int64,ts_bool,ts_ints,ts_post,ts_posts,yg,yh,yi,yj,yk,yl,ym,ts_intsl,ts_int64s,ts_bools,ts_side,ts_sideb,ts_pints,ts_pbool,aPure,aLen,ywa,ywb,ywc,ywd,ywe,ywf,ywg,ywh,ywi,ywj,ywk,ywl,ywm,ywn,ywo,ts_string,ts_u8,ts_u64,ts_error,ts_bytes,ts_arr,ts_reader,ts_pbuilder,ts_builder,cv_64_8,cv_8_64,cv_64_i64,cv_i64_64,cv_64_int,cv_int_64,errV_0]
    exact hq _
  · simp only [zaa,zab,zac,zad,zae,zaf,zag,zah,zai,zaj,zak,zal,zam,zan,zao,zap,zaq,zar,zas,zat,zau,zav,zaw,zax,zay,zaz,zba,aUn,zbb,zbc,zbd,zbe,zbf,zbg,zbh,zbi,zbj,zbk,zbl,zbm,zbn,flat,simple,zbo,zbp,zbq,zbr,zbs,zbt,zbu,zbv,zbw,zbx,zby,zbz,zca,zcb,zcc,zcd,zce,zcf,zcg,zch,zci,zcj,zck,zcl,zcm,zcn,zco,zcp,zcq,zcr,Nat.reduceEqDiff,Nat.reduceLT,Nat.reduceAdd,Nat.reduceSub,reduceIte,Kt_P,zcs,zct,zcu,zcv,zcw,zcx,zcy,zcz,zda,zdb,zdc,zdd,zde,zdf,zdg,zdh,zdi,zdj,zdk,reduceCtorEq,zdl,zdm,zdn,goInt,zdo,zdp,zdq,zdr,zds,zdt,zdu,zdv,zdw,zdx,zdy,zdz,zea,zeb,zec,zed,zdk,zee,zef,zeg,zeh,zei,zej,zek,zel,zem,zen,zeo,zep,zeq,zer,zes,zet,zeu,zev,zew,zex,zey,ya,yb,yc,yd,ye,yf,ts_int,ts_int64,ts_bool,ts_ints,ts_post,ts_posts,yg,yh,yi,yj,yk,yl,ym,ts_intsl,ts_int64s,ts_bools,ts_side,ts_sideb,ts_pints,ts_pbool,aPure,aLen,ywa,ywb,ywc,ywd,ywe,ywf,ywg,ywh,ywi,ywj,ywk,ywl,ywm,ywn,ywo,ts_string,ts_u8,ts_u64,ts_error,ts_bytes,ts_arr,ts_reader,ts_pbuilder,ts_builder,cv_64_8,cv_8_64,cv_64_i64,cv_i64_64,cv_64_int,cv_int_64,errV_0]
    rw [CalF_cal (Kt_prim (by decide) _ _)]
    refine encodeBad_ok A1 va l hL1.posts hw _ fun i A2 hE2 hi hbad hbel => ?_
    simp only [zaa,zab,zac,zad,zae,zaf,zag,zah,zai,zaj,zak,zal,zam,zan,zao,zap,zaq,zar,zas,zat,zau,zav,zaw,zax,zay,zaz,zba,aUn,zbb,zbc,zbd,zbe,zbf,zbg,zbh,zbi,zbj,zbk,zbl,zbm,zbn,flat,simple,zbo,zbp,zbq,zbr,zbs,zbt,zbu,zbv,zbw,zbx,zby,zbz,zca,zcb,zcc,zcd,zce,zcf,zcg,zch,zci,zcj,zck,zcl,zcm,zcn,zco,zcp,zcq,zcr,Nat.reduceEqDiff,Nat.reduceLT,Nat.reduceAdd,Nat.reduceSub,reduceIte,Kt_P,zcs,zct,zcu,zcv,zcw,zcx,zcy,zcz,zda,zdb,zdc,zdd,zde,zdf,zdg,zdh,zdi,zdj,zdk,reduceCtorEq,zdl,zdm,zdn,goInt,zdo,zdp,zdq,zdr,zds,zdt,zdu,zdv,zdw,zdx,zdy,zdz,zea,zeb,zec,zed,zdk,zee,zef,zeg,zeh,zei,zej,zek,zel,zem,zen,zeo,zep,zeq,zer,zes,zet,zeu,zev,zew,zex,zey,ya,yb,yc,yd,ye,yf,ts_int,ts_int64,ts_bool,ts_ints,ts_post,ts_posts,yg,yh,yi,yj,yk,yl,ym,ts_intsl,ts_int64s,ts_bools,ts_side,ts_sideb,ts_pints,ts_pbool,aPure,aLen,ywa,ywb,ywc,ywd,ywe,ywf,ywg,ywh,ywi,ywj,ywk,ywl,ywm,ywn,ywo,ts_string,ts_u8,ts_u64,ts_error,ts_bytes,ts_arr,ts_reader,ts_pbuilder,ts_builder,cv_64_8,cv_8_64,cv_64_i64,cv_i64_64,cv_64_int,cv_int_64,errV_0]
    rw [CalF_cal (Kt_prim (by decide) _ _)]
    refine keptP_ok A2 va v l ua (hL1.fr hE2 fun _ _ _ h => h) ((h.fr hE1).fr hE2) _ fun A3 hE3 => ?_
    simp only [zaa,zab,zac,zad,zae,zaf,zag,zah,zai,zaj,zak,zal,zam,zan,zao,zap,zaq,zar,zas,zat,zau,zav,zaw,zax,zay,zaz,zba,aUn,zbb,zbc,zbd,zbe,zbf,zbg,zbh,zbi,zbj,zbk,zbl,zbm,zbn,flat,simple,zbo,zbp,zbq,zbr,zbs,zbt,zbu,zbv,zbw,zbx,zby,zbz,zca,zcb,zcc,zcd,zce,zcf,zcg,zch,zci,zcj,zck,zcl,zcm,zcn,zco,zcp,zcq,zcr,Nat.reduceEqDiff,Nat.reduceLT,Nat.reduceAdd,Nat.reduceSub,reduceIte,Kt_P,zcs,zct,zcu,zcv,zcw,zcx,zcy,zcz,zda,zdb,zdc,zdd,zde,zdf,zdg,zdh,zdi,zdj,zdk,reduceCtorEq,zdl,zdm,zdn,goInt,zdo,zdp,zdq,zdr,zds,zdt,zdu,zdv,zdw,zdx,zdy,zdz,zea,zeb,zec,zed,zdk,zee,zef,zeg,zeh,zei,zej,zek,zel,zem,zen,zeo,zep,zeq,zer,zes,zet,zeu,zev,zew,zex,zey,ya,yb,yc,yd,ye,yf,ts_int,ts_int64,ts_bool,ts_ints,ts_post,ts_posts,yg,yh,yi,yj,yk,yl,ym,ts_intsl,ts_int64s,ts_bools,ts_side,ts_sideb,ts_pints,ts_pbool,aPure,aLen,ywa,ywb,ywc,ywd,ywe,ywf,ywg,ywh,ywi,ywj,ywk,ywl,ywm,ywn,ywo,ts_string,ts_u8,ts_u64,ts_error,ts_bytes,ts_arr,ts_reader,ts_pbuilder,ts_builder,cv_64_8,cv_8_64,cv_64_i64,cv_i64_64,cv_64_int,cv_int_64,errV_0]
    rw [CalF_cal (Kt_prim (by decide) _ _)]
    refine encodeBad_ok A3 va l (((hL1.fr hE2 fun _ _ _ h => h).fr hE3 fun _ _ _ h => h).posts) hw _ fun i2 A4 hE4 hi2 hbad2 hbel2 => ?_
    obtain rfl := first_one hbad hbel hbad2 hbel2
    simp only [zaa,zab,zac,zad,zae,zaf,zag,zah,zai,zaj,zak,zal,zam,zan,zao,zap,zaq,zar,zas,zat,zau,zav,zaw,zax,zay,zaz,zba,aUn,zbb,zbc,zbd,zbe,zbf,zbg,zbh,zbi,zbj,zbk,zbl,zbm,zbn,flat,simple,zbo,zbp,zbq,zbr,zbs,zbt,zbu,zbv,zbw,zbx,zby,zbz,zca,zcb,zcc,zcd,zce,zcf,zcg,zch,zci,zcj,zck,zcl,zcm,zcn,zco,zcp,zcq,zcr,Nat.reduceEqDiff,Nat.reduceLT,Nat.reduceAdd,Nat.reduceSub,reduceIte,Kt_P,zcs,zct,zcu,zcv,zcw,zcx,zcy,zcz,zda,zdb,zdc,zdd,zde,zdf,zdg,zdh,zdi,zdj,zdk,reduceCtorEq,zdl,zdm,zdn,goInt,zdo,zdp,zdq,zdr,zds,zdt,zdu,zdv,zdw,zdx,zdy,zdz,zea,zeb,zec,zed,zdk,zee,zef,zeg,zeh,zei,zej,zek,zel,zem,zen,zeo,zep,zeq,zer,zes,zet,zeu,zev,zew,zex,zey,ya,yb,yc,yd,ye,yf,ts_int,ts_int64,ts_bool,ts_ints,ts_post,ts_posts,yg,yh,yi,yj,yk,yl,ym,ts_intsl,ts_int64s,ts_bools,ts_side,ts_sideb,ts_pints,ts_pbool,aPure,aLen,ywa,ywb,ywc,ywd,ywe,ywf,ywg,ywh,ywi,ywj,ywk,ywl,ywm,ywn,ywo,ts_string,ts_u8,ts_u64,ts_error,ts_bytes,ts_arr,ts_reader,ts_pbuilder,ts_builder,cv_64_8,cv_8_64,cv_64_i64,cv_i64_64,cv_64_int,cv_int_64,errV_0]
    rw [CalF_cal (Kt_prim (by decide) _ _)]
    refine refEncode_ok A4 v l ((((h.fr hE1).fr hE2).fr hE3).fr hE4) (by omega) (fun p hp => by have := pl p hp; omega) _ (fun w A5 hE5 hw1 hw2 => absurd hw1 hw) fun i3 A5 hE5 hi3 hbad3 hbel3 => ?_
    obtain rfl := first_one hbad hbel hbad3 hbel3
    have e1 : ((⟨#[]⟩ : ByteArray).toList == (⟨#[]⟩ : ByteArray).toList) = true := by simp
    have h10 : ((1 : Int) = 0) = False := eq_false (by decide)
    simp only [zaa,zab,zac,zad,zae,zaf,zag,zah,zai,zaj,zak,zal,zam,zan,zao,zap,zaq,zar,zas,zat,zau,zav,zaw,zax,zay,zaz,zba,aUn,zbb,zbc,zbd,zbe,zbf,zbg,zbh,zbi,zbj,zbk,zbl,zbm,zbn,flat,simple,zbo,zbp,zbq,zbr,zbs,zbt,zbu,zbv,zbw,zbx,zby,zbz,zca,zcb,zcc,zcd,zce,zcf,zcg,zch,zci,zcj,zck,zcl,zcm,zcn,zco,zcp,zcq,zcr,Nat.reduceEqDiff,Nat.reduceLT,Nat.reduceAdd,Nat.reduceSub,reduceIte,Kt_P,zcs,zct,zcu,zcv,zcw,zcx,zcy,zcz,zda,zdb,zdc,zdd,zde,zdf,zdg,zdh,zdi,zdj,zdk,reduceCtorEq,zdl,zdm,zdn,goInt,zdo,zdp,zdq,zdr,zds,zdt,zdu,zdv,zdw,zdx,zdy,zdz,zea,zeb,zec,zed,zdk,zee,zef,zeg,zeh,zei,zej,zek,zel,zem,zen,zeo,zep,zeq,zer,zes,zet,zeu,zev,zew,zex,zey,ya,yb,yc,yd,ye,yf,ts_int,ts_int64,ts_bool,ts_ints,ts_post,ts_posts,yg,yh,yi,yj,yk,yl,ym,ts_intsl,ts_int64s,ts_bools,ts_side,ts_sideb,ts_pints,ts_pbool,aPure,aLen,ywa,ywb,ywc,ywd,ywe,ywf,ywg,ywh,ywi,ywj,ywk,ywl,ywm,ywn,ywo,ts_string,ts_u8,ts_u64,ts_error,ts_bytes,ts_arr,ts_reader,ts_pbuilder,ts_builder,cv_64_8,cv_8_64,cv_64_i64,cv_i64_64,cv_64_int,cv_int_64,errV_0,str_eql,e1,h10,not_true_eq_false,ne_eq]
    rw [CalF_cal (Kt_prim (by decide) _ _)]
    refine at_fault A5 1 0 i (by omega) _ fun A6 hE6 => ?_
    simp only [zaa,zab,zac,zad,zae,zaf,zag,zah,zai,zaj,zak,zal,zam,zan,zao,zap,zaq,zar,zas,zat,zau,zav,zaw,zax,zay,zaz,zba,aUn,zbb,zbc,zbd,zbe,zbf,zbg,zbh,zbi,zbj,zbk,zbl,zbm,zbn,flat,simple,zbo,zbp,zbq,zbr,zbs,zbt,zbu,zbv,zbw,zbx,zby,zbz,zca,zcb,zcc,zcd,zce,zcf,zcg,zch,zci,zcj,zck,zcl,zcm,zcn,zco,zcp,zcq,zcr,Nat.reduceEqDiff,Nat.reduceLT,Nat.reduceAdd,Nat.reduceSub,reduceIte,Kt_P,zcs,zct,zcu,zcv,zcw,zcx,zcy,zcz,zda,zdb,zdc,zdd,zde,zdf,zdg,zdh,zdi,zdj,zdk,reduceCtorEq,zdl,zdm,zdn,goInt,zdo,zdp,zdq,zdr,zds,zdt,zdu,zdv,zdw,zdx,zdy,zdz,zea,zeb,zec,zed,zdk,zee,zef,zeg,zeh,zei,zej,zek,zel,zem,zen,zeo,zep,zeq,zer,zes,zet,zeu,zev,zew,zex,zey,ya,yb,yc,yd,ye,yf,ts_int,ts_int64,ts_bool,ts_ints,ts_post,ts_posts,yg,yh,yi,yj,yk,yl,ym,ts_intsl,ts_int64s,ts_bools,ts_side,ts_sideb,ts_pints,ts_pbool,aPure,aLen,ywa,ywb,ywc,ywd,ywe,ywf,ywg,ywh,ywi,ywj,ywk,ywl,ywm,ywn,ywo,ts_string,ts_u8,ts_u64,ts_error,ts_bytes,ts_arr,ts_reader,ts_pbuilder,ts_builder,cv_64_8,cv_8_64,cv_64_i64,cv_i64_64,cv_64_int,cv_int_64,errV_0]
    rw [CalF_cal (Kt_prim (by decide) _ _)]
    refine at_fault A6 1 0 i (by omega) _ fun A7 hE7 => ?_
    simp only [zaa,zab,zac,zad,zae,zaf,zag,zah,zai,zaj,zak,zal,zam,zan,zao,zap,zaq,zar,zas,zat,zau,zav,zaw,zax,zay,zaz,zba,aUn,zbb,zbc,zbd,zbe,zbf,zbg,zbh,zbi,zbj,zbk,zbl,zbm,zbn,flat,simple,zbo,zbp,zbq,zbr,zbs,zbt,zbu,zbv,zbw,zbx,zby,zbz,zca,zcb,zcc,zcd,zce,zcf,zcg,zch,zci,zcj,zck,zcl,zcm,zcn,zco,zcp,zcq,zcr,Nat.reduceEqDiff,Nat.reduceLT,Nat.reduceAdd,Nat.reduceSub,reduceIte,Kt_P,zcs,zct,zcu,zcv,zcw,zcx,zcy,zcz,zda,zdb,zdc,zdd,zde,zdf,zdg,zdh,zdi,zdj,zdk,reduceCtorEq,zdl,zdm,zdn,goInt,zdo,zdp,zdq,zdr,zds,zdt,zdu,zdv,zdw,zdx,zdy,zdz,zea,zeb,zec,zed,zdk,zee,zef,zeg,zeh,zei,zej,zek,zel,zem,zen,zeo,zep,zeq,zer,zes,zet,zeu,zev,zew,zex,zey,ya,yb,yc,yd,ye,yf,ts_int,ts_int64,ts_bool,ts_ints,ts_post,ts_posts,yg,yh,yi,yj,yk,yl,ym,ts_intsl,ts_int64s,ts_bools,ts_side,ts_sideb,ts_pints,ts_pbool,aPure,aLen,ywa,ywb,ywc,ywd,ywe,ywf,ywg,ywh,ywi,ywj,ywk,ywl,ywm,ywn,ywo,ts_string,ts_u8,ts_u64,ts_error,ts_bytes,ts_arr,ts_reader,ts_pbuilder,ts_builder,cv_64_8,cv_8_64,cv_64_i64,cv_i64_64,cv_64_int,cv_int_64,errV_0]
    refine CalF_prim (works_prim _) ?_
    simp only [zaa,zab,zac,zad,zae,zaf,zag,zah,zai,zaj,zak,zal,zam,zan,zao,zap,zaq,zar,zas,zat,zau,zav,zaw,zax,zay,zaz,zba,aUn,zbb,zbc,zbd,zbe,zbf,zbg,zbh,zbi,zbj,zbk,zbl,zbm,zbn,flat,simple,zbo,zbp,zbq,zbr,zbs,zbt,zbu,zbv,zbw,zbx,zby,zbz,zca,zcb,zcc,zcd,zce,zcf,zcg,zch,zci,zcj,zck,zcl,zcm,zcn,zco,zcp,zcq,zcr,Nat.reduceEqDiff,Nat.reduceLT,Nat.reduceAdd,Nat.reduceSub,reduceIte,Kt_P,zcs,zct,zcu,zcv,zcw,zcx,zcy,zcz,zda,zdb,zdc,zdd,zde,zdf,zdg,zdh,zdi,zdj,zdk,reduceCtorEq,zdl,zdm,zdn,goInt,zdo,zdp,zdq,zdr,zds,zdt,zdu,zdv,zdw,zdx,zdy,zdz,zea,zeb,zec,zed,zdk,zee,zef,zeg,zeh,zei,zej,zek,zel,zem,zen,zeo,zep,zeq,zer,zes,zet,zeu,zev,zew,zex,zey,ya,yb,yc,yd,ye,yf,ts_int,ts_int64,ts_bool,ts_ints,ts_post,ts_posts,yg,yh,yi,yj,yk,yl,ym,ts_intsl,ts_int64s,ts_bools,ts_side,ts_sideb,ts_pints,ts_pbool,aPure,aLen,ywa,ywb,ywc,ywd,ywe,ywf,ywg,ywh,ywi,ywj,ywk,ywl,ywm,ywn,ywo,ts_string,ts_u8,ts_u64,ts_error,ts_bytes,ts_arr,ts_reader,ts_pbuilder,ts_builder,cv_64_8,cv_8_64,cv_64_i64,cv_i64_64,cv_64_int,cv_int_64,errV_0]
    exact hq _
end Go.Sh
