/- What single functions do: few enough; lists lent, and looked at again. -/
import Derived.Test.YteoefjahcbfpeaaDoorSp0B
import Derived.Test.YteoefjahcbfpeaaDoorSkC
namespace Go.Sh
open Go Go.Proofs
set_option linter.unusedSimpArgs false
set_option linter.unusedVariables false
set_option maxRecDepth 4000
set_option maxHeartbeats 1000000

theorem fn_few : Kt.funcs 5 = some Tryd.f5 := by kernel_rfl
theorem fn_markI : Kt.funcs 81 = some Tryd.f81 := by kernel_rfl
theorem fn_fullI : Kt.funcs 67 = some Tryd.f67 := by kernel_rfl
theorem fn_lentI : Kt.funcs 42 = some Tryd.f42 := by kernel_rfl
theorem fn_lentP1 : Kt.funcs 19 = some Tryd.f19 := by kernel_rfl
theorem fn_lentP : Kt.funcs 6 = some Tryd.f6 := by kernel_rfl

def tot (l : List PostL) : Nat := l.length + (l.map fun p => p.2.length).sum
theorem tot_take (l : List PostL) (i : Nat) (h : i < l.length) : ((l.take (i + 1)).map fun p => p.2.length).sum = ((l.take i).map fun p => p.2.length).sum + l[i].2.length := by
  rw [List.take_succ_eq_append_getElem h, List.map_append, List.sum_append]
  simp
theorem tot_len (l : List PostL) : l.length ≤ tot l := by unfold tot; omega
theorem tot_places {l : List PostL} : ∀ p ∈ l, p.2.length ≤ tot l := by
  intro p hp
  have : ∀ (l : List PostL), p ∈ l → p.2.length ≤ (l.map fun p => p.2.length).sum := by
    intro l
    induction l with
    | nil => intro h; cases h
    | cons a l ih =>
      intro h
      rw [List.map_cons, List.sum_cons]
      rcases List.mem_cons.1 h with rfl | h
      · omega
      · have := ih h; omega
  have := this l hp
  unfold tot
  omega

theorem few_ok (A : AHeap) (v : Value) (l : List PostL) (h : Posts A v l) (hp : ∀ p ∈ l, p.2.length ≤ 100000000000000) (Q : Value → AHeap → Prop) (hq : ∀ b : Bool, (b = true → tot l ≤ 4096) → Q (.bool b) A) :
    Cal Kt 5 #[v] A Q := by
  refine Cal_of (nt := 27) (rs := [.tmp 2]) fn_few rfl rfl rfl (Nat.le_of_ble_eq_true rfl) ?_
  obtain ⟨o, c, hv, hlen, hdat⟩ := h.opened
  subst hv
  simp only [zfd,zaa,zab,zac,zad,zae,zaf,zag,zah,zai,zaj,zak,zal,zam,zan,zao,zap,zaq,zar,zas,zat,zau,zav,zaw,zax,zay,zaz,zba,aUn,zbb,zbc,zbd,zbe,zbf,zbg,zbh,zbi,zbj,zbk,zbl,zbm,zbn,flat,simple,zbo,zbp,zbq,zbr,zbs,zbt,zbu,zbv,zbw,zbx,zby,zbz,zca,zcb,zcc,zcd,zce,zcf,zcg,zch,zci,zcj,zck,zcl,zcm,zcn,zco,zcp,zcq,zcr,Nat.reduceEqDiff,Nat.reduceLT,Nat.reduceAdd,Nat.reduceSub,reduceIte,Kt_P,zcs,zct,zcu,zcv,zcw,zcx,zcy,zcz,zda,zdb,zdc,zdd,zde,zdf,zdg,zdh,zdi,zdj,zdk,reduceCtorEq,zdl,zdm,zdn,goInt,zdo,zdp,zdq,zdr,zds,zdt,zdu,zdv,zdw,zdx,zdy,zdz,zea,zeb,zec,zed,zdk,zee,zef,zeg,zeh,zei,zej,zek,zel,zem,zen,zeo,zep,zeq,zer,zes,zet,zeu,zev,zew,zex,zey,ya,yb,yc,yd,ye,yf,ts_int,ts_int64,ts_bool,ts_ints,ts_post,ts_posts,yg,yh,yi,yj,yk,yl,ym,ts_intsl,ts_int64s,ts_bools,ts_side,ts_sideb,ts_pints,ts_pbool,aPure,aLen]
  refine Lop_inv (fun k e H => ∃ (i n : Nat), (e 0 = .slice o l.length c ∧ e 3 = .int .i64 n ∧ e 4 = .int .i64 i) ∧ k = l.length - i ∧ i ≤ l.length ∧ H = A ∧ n = l.length + ((l.take i).map fun p => p.2.length).sum ∧ (0 < i → n ≤ 4096 + 100000000000000))
    ?_ l.length _ _ ⟨0, l.length, by simp [put_at, argEnv], by simp, by simp, rfl, by simp, by simp⟩
  rintro k e H ⟨i, n, ⟨e0, e3, e4⟩, rfl, hi, rfl, hn, hn2⟩
  simp only [zfd,zaa,zab,zac,zad,zae,zaf,zag,zah,zai,zaj,zak,zal,zam,zan,zao,zap,zaq,zar,zas,zat,zau,zav,zaw,zax,zay,zaz,zba,aUn,zbb,zbc,zbd,zbe,zbf,zbg,zbh,zbi,zbj,zbk,zbl,zbm,zbn,flat,simple,zbo,zbp,zbq,zbr,zbs,zbt,zbu,zbv,zbw,zbx,zby,zbz,zca,zcb,zcc,zcd,zce,zcf,zcg,zch,zci,zcj,zck,zcl,zcm,zcn,zco,zcp,zcq,zcr,Nat.reduceEqDiff,Nat.reduceLT,Nat.reduceAdd,Nat.reduceSub,reduceIte,Kt_P,zcs,zct,zcu,zcv,zcw,zcx,zcy,zcz,zda,zdb,zdc,zdd,zde,zdf,zdg,zdh,zdi,zdj,zdk,reduceCtorEq,zdl,zdm,zdn,goInt,zdo,zdp,zdq,zdr,zds,zdt,zdu,zdv,zdw,zdx,zdy,zdz,zea,zeb,zec,zed,zdk,zee,zef,zeg,zeh,zei,zej,zek,zel,zem,zen,zeo,zep,zeq,zer,zes,zet,zeu,zev,zew,zex,zey,ya,yb,yc,yd,ye,yf,ts_int,ts_int64,ts_bool,ts_ints,ts_post,ts_posts,yg,yh,yi,yj,yk,yl,ym,ts_intsl,ts_int64s,ts_bools,ts_side,ts_sideb,ts_pints,ts_pbool,aPure,aLen,e0,e3,e4]
  have hfin : (l.length : Int) ≤ i ∨ ¬ (n : Int) ≤ 4096 → Q (.bool (decide ((n : Int) ≤ 4096))) H := fun hor => hq _ fun hb => by
    have hb' : (n : Int) ≤ 4096 := of_decide_eq_true hb
    have hil : i = l.length := by omega
    subst hil
    rw [List.take_length] at hn
    unfold tot
    omega
  refine Grd_of (fun hlt => ?_) (fun hge => ?_)
  · simp only [zfd,zaa,zab,zac,zad,zae,zaf,zag,zah,zai,zaj,zak,zal,zam,zan,zao,zap,zaq,zar,zas,zat,zau,zav,zaw,zax,zay,zaz,zba,aUn,zbb,zbc,zbd,zbe,zbf,zbg,zbh,zbi,zbj,zbk,zbl,zbm,zbn,flat,simple,zbo,zbp,zbq,zbr,zbs,zbt,zbu,zbv,zbw,zbx,zby,zbz,zca,zcb,zcc,zcd,zce,zcf,zcg,zch,zci,zcj,zck,zcl,zcm,zcn,zco,zcp,zcq,zcr,Nat.reduceEqDiff,Nat.reduceLT,Nat.reduceAdd,Nat.reduceSub,reduceIte,Kt_P,zcs,zct,zcu,zcv,zcw,zcx,zcy,zcz,zda,zdb,zdc,zdd,zde,zdf,zdg,zdh,zdi,zdj,zdk,reduceCtorEq,zdl,zdm,zdn,goInt,zdo,zdp,zdq,zdr,zds,zdt,zdu,zdv,zdw,zdx,zdy,zdz,zea,zeb,zec,zed,zdk,zee,zef,zeg,zeh,zei,zej,zek,zel,zem,zen,zeo,zep,zeq,zer,zes,zet,zeu,zev,zew,zex,zey,ya,yb,yc,yd,ye,yf,ts_int,ts_int64,ts_bool,ts_ints,ts_post,ts_posts,yg,yh,yi,yj,yk,yl,ym,ts_intsl,ts_int64s,ts_bools,ts_side,ts_sideb,ts_pints,ts_pbool,aPure,aLen,e0,e3,e4,hlt]
    refine Way_of (fun hle => ?_) (fun hgt => ?_)
    · obtain ⟨b, u, hob, _, _, lu, hu, _⟩ := hdat i (by omega)
      subst hob
      obtain ⟨o', c', hu', _, _, _⟩ := hu.opened
      subst hu'
      have hpl := hp _ (List.getElem_mem (l := l) (n := i) (by omega))
      have ht := tot_take l i (by omega)
      have hws : IntKind.i64.wrap ((i : Int) + 1) = ((i + 1 : Nat) : Int) := wrap_succ (by omega) hlen
      have hwn : IntKind.i64.wrap ((n : Int) + (l[i].2.length : Int)) = ((n + l[i].2.length : Nat) : Int) := by rw [wrap_i64 (by omega)]; omega
      simp only [zfd,zaa,zab,zac,zad,zae,zaf,zag,zah,zai,zaj,zak,zal,zam,zan,zao,zap,zaq,zar,zas,zat,zau,zav,zaw,zax,zay,zaz,zba,aUn,zbb,zbc,zbd,zbe,zbf,zbg,zbh,zbi,zbj,zbk,zbl,zbm,zbn,flat,simple,zbo,zbp,zbq,zbr,zbs,zbt,zbu,zbv,zbw,zbx,zby,zbz,zca,zcb,zcc,zcd,zce,zcf,zcg,zch,zci,zcj,zck,zcl,zcm,zcn,zco,zcp,zcq,zcr,Nat.reduceEqDiff,Nat.reduceLT,Nat.reduceAdd,Nat.reduceSub,reduceIte,Kt_P,zcs,zct,zcu,zcv,zcw,zcx,zcy,zcz,zda,zdb,zdc,zdd,zde,zdf,zdg,zdh,zdi,zdj,zdk,reduceCtorEq,zdl,zdm,zdn,goInt,zdo,zdp,zdq,zdr,zds,zdt,zdu,zdv,zdw,zdx,zdy,zdz,zea,zeb,zec,zed,zdk,zee,zef,zeg,zeh,zei,zej,zek,zel,zem,zen,zeo,zep,zeq,zer,zes,zet,zeu,zev,zew,zex,zey,ya,yb,yc,yd,ye,yf,ts_int,ts_int64,ts_bool,ts_ints,ts_post,ts_posts,yg,yh,yi,yj,yk,yl,ym,ts_intsl,ts_int64s,ts_bools,ts_side,ts_sideb,ts_pints,ts_pbool,aPure,aLen,e0,e3,e4,lu,hlt,hws,hwn]
      exact ⟨l.length - (i + 1), by omega, i + 1, n + l[i].2.length, by simp [put_at, e0], rfl, by omega, rfl, by omega, by omega⟩
    · simp only [zfd,zaa,zab,zac,zad,zae,zaf,zag,zah,zai,zaj,zak,zal,zam,zan,zao,zap,zaq,zar,zas,zat,zau,zav,zaw,zax,zay,zaz,zba,aUn,zbb,zbc,zbd,zbe,zbf,zbg,zbh,zbi,zbj,zbk,zbl,zbm,zbn,flat,simple,zbo,zbp,zbq,zbr,zbs,zbt,zbu,zbv,zbw,zbx,zby,zbz,zca,zcb,zcc,zcd,zce,zcf,zcg,zch,zci,zcj,zck,zcl,zcm,zcn,zco,zcp,zcq,zcr,Nat.reduceEqDiff,Nat.reduceLT,Nat.reduceAdd,Nat.reduceSub,reduceIte,Kt_P,zcs,zct,zcu,zcv,zcw,zcx,zcy,zcz,zda,zdb,zdc,zdd,zde,zdf,zdg,zdh,zdi,zdj,zdk,reduceCtorEq,zdl,zdm,zdn,goInt,zdo,zdp,zdq,zdr,zds,zdt,zdu,zdv,zdw,zdx,zdy,zdz,zea,zeb,zec,zed,zdk,zee,zef,zeg,zeh,zei,zej,zek,zel,zem,zen,zeo,zep,zeq,zer,zes,zet,zeu,zev,zew,zex,zey,ya,yb,yc,yd,ye,yf,ts_int,ts_int64,ts_bool,ts_ints,ts_post,ts_posts,yg,yh,yi,yj,yk,yl,ym,ts_intsl,ts_int64s,ts_bools,ts_side,ts_sideb,ts_pints,ts_pbool,aPure,aLen,e3]
      exact hfin (.inr hgt)
  · simp only [zfd,zaa,zab,zac,zad,zae,zaf,zag,zah,zai,zaj,zak,zal,zam,zan,zao,zap,zaq,zar,zas,zat,zau,zav,zaw,zax,zay,zaz,zba,aUn,zbb,zbc,zbd,zbe,zbf,zbg,zbh,zbi,zbj,zbk,zbl,zbm,zbn,flat,simple,zbo,zbp,zbq,zbr,zbs,zbt,zbu,zbv,zbw,zbx,zby,zbz,zca,zcb,zcc,zcd,zce,zcf,zcg,zch,zci,zcj,zck,zcl,zcm,zcn,zco,zcp,zcq,zcr,Nat.reduceEqDiff,Nat.reduceLT,Nat.reduceAdd,Nat.reduceSub,reduceIte,Kt_P,zcs,zct,zcu,zcv,zcw,zcx,zcy,zcz,zda,zdb,zdc,zdd,zde,zdf,zdg,zdh,zdi,zdj,zdk,reduceCtorEq,zdl,zdm,zdn,goInt,zdo,zdp,zdq,zdr,zds,zdt,zdu,zdv,zdw,zdx,zdy,zdz,zea,zeb,zec,zed,zdk,zee,zef,zeg,zeh,zei,zej,zek,zel,zem,zen,zeo,zep,zeq,zer,zes,zet,zeu,zev,zew,zex,zey,ya,yb,yc,yd,ye,yf,ts_int,ts_int64,ts_bool,ts_ints,ts_post,ts_posts,yg,yh,yi,yj,yk,yl,ym,ts_intsl,ts_int64s,ts_bools,ts_side,ts_sideb,ts_pints,ts_pbool,aPure,aLen,e0,e3,e4,hge]
    exact hfin (.inl (by omega))

/-! ### Marks -/
def markL (k n : Nat) (j : Nat) : List Int := (List.range n).map fun i => -1000000 * ((k : Int) + 1) - ((j + i : Nat) : Int)
theorem markL_succ (k n j : Nat) : markL k (n + 1) j = markL k n j ++ [-1000000 * ((k : Int) + 1) - ((j + n : Nat) : Int)] := by
  unfold markL
  rw [List.range_succ, List.map_append]
  rfl
theorem markL_len (k n j : Nat) : (markL k n j).length = n := by simp [markL]

theorem markI_ok (A : AHeap) (k i : Int) (hk : -1000000000 ≤ k ∧ k ≤ 1000000000) (hi : -100000000000000 ≤ i ∧ i ≤ 100000000000000) (Q : Value → AHeap → Prop) (hq : Q (.int .i64 (-1000000 * (k + 1) - i)) A) :
    Cal Kt 81 #[.int .i64 k, .int .i64 i] A Q := by
  refine Cal_of (nt := 10) (rs := [.tmp 4]) fn_markI rfl rfl rfl (Nat.le_of_ble_eq_true rfl) ?_
  have h1 : IntKind.i64.wrap (k + 1) = k + 1 := wrap_i64 (by omega)
  have h2 : IntKind.i64.wrap (-1000000 * (k + 1)) = -1000000 * (k + 1) := wrap_i64 (by omega)
  have h3 : IntKind.i64.wrap (-1000000 * (k + 1) - i) = -1000000 * (k + 1) - i := wrap_i64 (by omega)
  simp only [zfd,zaa,zab,zac,zad,zae,zaf,zag,zah,zai,zaj,zak,zal,zam,zan,zao,zap,zaq,zar,zas,zat,zau,zav,zaw,zax,zay,zaz,zba,aUn,zbb,zbc,zbd,zbe,zbf,zbg,zbh,zbi,zbj,zbk,zbl,zbm,zbn,flat,simple,zbo,zbp,zbq,zbr,zbs,zbt,zbu,zbv,zbw,zbx,zby,zbz,zca,zcb,zcc,zcd,zce,zcf,zcg,zch,zci,zcj,zck,zcl,zcm,zcn,zco,zcp,zcq,zcr,Nat.reduceEqDiff,Nat.reduceLT,Nat.reduceAdd,Nat.reduceSub,reduceIte,Kt_P,zcs,zct,zcu,zcv,zcw,zcx,zcy,zcz,zda,zdb,zdc,zdd,zde,zdf,zdg,zdh,zdi,zdj,zdk,reduceCtorEq,zdl,zdm,zdn,goInt,zdo,zdp,zdq,zdr,zds,zdt,zdu,zdv,zdw,zdx,zdy,zdz,zea,zeb,zec,zed,zdk,zee,zef,zeg,zeh,zei,zej,zek,zel,zem,zen,zeo,zep,zeq,zer,zes,zet,zeu,zev,zew,zex,zey,ya,yb,yc,yd,ye,yf,ts_int,ts_int64,ts_bool,ts_ints,ts_post,ts_posts,yg,yh,yi,yj,yk,yl,ym,ts_intsl,ts_int64s,ts_bools,ts_side,ts_sideb,ts_pints,ts_pbool,aPure,aLen,h1,h2,h3]
  exact hq

theorem fullI_ok (A : AHeap) (v : Value) (l : List Int) (h : Ints A v l) (hl : l.length ≤ 4000000) (Q : Value → AHeap → Prop)
    (hq : ∀ u A', Ext A A' → Acc A' 3 1 u (l.length + 16) (ints (l ++ markL 90 16 0)) → (∀ b, blockOf u b → A.next ≤ b) → Q u A') : Cal Kt 67 #[v] A Q := by
  refine Cal_of (nt := 29) (rs := [.tmp 2]) fn_fullI rfl rfl rfl (Nat.le_of_ble_eq_true rfl) ?_
  obtain ⟨o, c, hv, _, hin, hlen⟩ := h.opened
  subst hv
  simp only [zfd,zaa,zab,zac,zad,zae,zaf,zag,zah,zai,zaj,zak,zal,zam,zan,zao,zap,zaq,zar,zas,zat,zau,zav,zaw,zax,zay,zaz,zba,aUn,zbb,zbc,zbd,zbe,zbf,zbg,zbh,zbi,zbj,zbk,zbl,zbm,zbn,flat,simple,zbo,zbp,zbq,zbr,zbs,zbt,zbu,zbv,zbw,zbx,zby,zbz,zca,zcb,zcc,zcd,zce,zcf,zcg,zch,zci,zcj,zck,zcl,zcm,zcn,zco,zcp,zcq,zcr,Nat.reduceEqDiff,Nat.reduceLT,Nat.reduceAdd,Nat.reduceSub,reduceIte,Kt_P,zcs,zct,zcu,zcv,zcw,zcx,zcy,zcz,zda,zdb,zdc,zdd,zde,zdf,zdg,zdh,zdi,zdj,zdk,reduceCtorEq,zdl,zdm,zdn,goInt,zdo,zdp,zdq,zdr,zds,zdt,zdu,zdv,zdw,zdx,zdy,zdz,zea,zeb,zec,zed,zdk,zee,zef,zeg,zeh,zei,zej,zek,zel,zem,zen,zeo,zep,zeq,zer,zes,zet,zeu,zev,zew,zex,zey,ya,yb,yc,yd,ye,yf,ts_int,ts_int64,ts_bool,ts_ints,ts_post,ts_posts,yg,yh,yi,yj,yk,yl,ym,ts_intsl,ts_int64s,ts_bools,ts_side,ts_sideb,ts_pints,ts_pbool,aPure,aLen]
  refine Lop_inv (fun k e H => ∃ (i : Nat) (lv : Value), (e 0 = .slice o l.length c ∧ e 3 = lv ∧ e 4 = .int .i64 i) ∧ k = l.length - i ∧ i ≤ l.length ∧ Ext A H ∧ Acc H 3 1 lv i (ints (l.take i)) ∧ (∀ b, blockOf lv b → A.next ≤ b))
    ?_ l.length _ _ ⟨0, .slice none 0 0, by simp [put_at, argEnv], by simp, by simp, Fr.refl _ _, ⟨rfl, .inl ⟨rfl, rfl⟩⟩, fun b h => h.elim⟩
  rintro k e H ⟨i, lv, ⟨e0, e3, e4⟩, rfl, hi, hE, hP, hblk⟩
  have hAH := hE.next
  obtain ⟨o2, hlv⟩ := hP.at
  subst hlv
  simp only [zfd,zaa,zab,zac,zad,zae,zaf,zag,zah,zai,zaj,zak,zal,zam,zan,zao,zap,zaq,zar,zas,zat,zau,zav,zaw,zax,zay,zaz,zba,aUn,zbb,zbc,zbd,zbe,zbf,zbg,zbh,zbi,zbj,zbk,zbl,zbm,zbn,flat,simple,zbo,zbp,zbq,zbr,zbs,zbt,zbu,zbv,zbw,zbx,zby,zbz,zca,zcb,zcc,zcd,zce,zcf,zcg,zch,zci,zcj,zck,zcl,zcm,zcn,zco,zcp,zcq,zcr,Nat.reduceEqDiff,Nat.reduceLT,Nat.reduceAdd,Nat.reduceSub,reduceIte,Kt_P,zcs,zct,zcu,zcv,zcw,zcx,zcy,zcz,zda,zdb,zdc,zdd,zde,zdf,zdg,zdh,zdi,zdj,zdk,reduceCtorEq,zdl,zdm,zdn,goInt,zdo,zdp,zdq,zdr,zds,zdt,zdu,zdv,zdw,zdx,zdy,zdz,zea,zeb,zec,zed,zdk,zee,zef,zeg,zeh,zei,zej,zek,zel,zem,zen,zeo,zep,zeq,zer,zes,zet,zeu,zev,zew,zex,zey,ya,yb,yc,yd,ye,yf,ts_int,ts_int64,ts_bool,ts_ints,ts_post,ts_posts,yg,yh,yi,yj,yk,yl,ym,ts_intsl,ts_int64s,ts_bools,ts_side,ts_sideb,ts_pints,ts_pbool,aPure,aLen,e0,e3,e4]
  refine Way_of (fun hlt => ?_) (fun hge => ?_)
  · obtain ⟨o', c', ho', hdat, _⟩ := (h.fr hE).opened
    cases ho'
    obtain ⟨b, hob, hd⟩ := hdat i hlt
    subst hob
    have ld := hd.int hlt
    have hws := wrap_succ hlt hlen
    simp only [zfd,zaa,zab,zac,zad,zae,zaf,zag,zah,zai,zaj,zak,zal,zam,zan,zao,zap,zaq,zar,zas,zat,zau,zav,zaw,zax,zay,zaz,zba,aUn,zbb,zbc,zbd,zbe,zbf,zbg,zbh,zbi,zbj,zbk,zbl,zbm,zbn,flat,simple,zbo,zbp,zbq,zbr,zbs,zbt,zbu,zbv,zbw,zbx,zby,zbz,zca,zcb,zcc,zcd,zce,zcf,zcg,zch,zci,zcj,zck,zcl,zcm,zcn,zco,zcp,zcq,zcr,Nat.reduceEqDiff,Nat.reduceLT,Nat.reduceAdd,Nat.reduceSub,reduceIte,Kt_P,zcs,zct,zcu,zcv,zcw,zcx,zcy,zcz,zda,zdb,zdc,zdd,zde,zdf,zdg,zdh,zdi,zdj,zdk,reduceCtorEq,zdl,zdm,zdn,goInt,zdo,zdp,zdq,zdr,zds,zdt,zdu,zdv,zdw,zdx,zdy,zdz,zea,zeb,zec,zed,zdk,zee,zef,zeg,zeh,zei,zej,zek,zel,zem,zen,zeo,zep,zeq,zer,zes,zet,zeu,zev,zew,zex,zey,ya,yb,yc,yd,ye,yf,ts_int,ts_int64,ts_bool,ts_ints,ts_post,ts_posts,yg,yh,yi,yj,yk,yl,ym,ts_intsl,ts_int64s,ts_bools,ts_side,ts_sideb,ts_pints,ts_pbool,aPure,aLen,e0,e3,e4,hlt,ld]
    refine OpW_buildSlice_of (cs := [.int .i64 l[i]]) Tryd.underlying42 ts_int tz_int (by decide) rfl rfl rfl fun q1 G1 hq1 hm3 hF3 hQ1 => ?_
    simp only [zfd,zaa,zab,zac,zad,zae,zaf,zag,zah,zai,zaj,zak,zal,zam,zan,zao,zap,zaq,zar,zas,zat,zau,zav,zaw,zax,zay,zaz,zba,aUn,zbb,zbc,zbd,zbe,zbf,zbg,zbh,zbi,zbj,zbk,zbl,zbm,zbn,flat,simple,zbo,zbp,zbq,zbr,zbs,zbt,zbu,zbv,zbw,zbx,zby,zbz,zca,zcb,zcc,zcd,zce,zcf,zcg,zch,zci,zcj,zck,zcl,zcm,zcn,zco,zcp,zcq,zcr,Nat.reduceEqDiff,Nat.reduceLT,Nat.reduceAdd,Nat.reduceSub,reduceIte,Kt_P,zcs,zct,zcu,zcv,zcw,zcx,zcy,zcz,zda,zdb,zdc,zdd,zde,zdf,zdg,zdh,zdi,zdj,zdk,reduceCtorEq,zdl,zdm,zdn,goInt,zdo,zdp,zdq,zdr,zds,zdt,zdu,zdv,zdw,zdx,zdy,zdz,zea,zeb,zec,zed,zdk,zee,zef,zeg,zeh,zei,zej,zek,zel,zem,zen,zeo,zep,zeq,zer,zes,zet,zeu,zev,zew,zex,zey,ya,yb,yc,yd,ye,yf,ts_int,ts_int64,ts_bool,ts_ints,ts_post,ts_posts,yg,yh,yi,yj,yk,yl,ym,ts_intsl,ts_int64s,ts_bools,ts_side,ts_sideb,ts_pints,ts_pbool,aPure,aLen]
    refine OpW_append_of (n := i) (k := 1) ⟨rfl, rfl⟩ Tryd.underlying42 (by rw [Kt_P, Tryd.underlying42]; rfl) ts_int tb_int tz_int (by simp only [zfd,zaa,zab,zac,zad,zae,zaf,zag,zah,zai,zaj,zak,zal,zam,zan,zao,zap,zaq,zar,zas,zat,zau,zav,zaw,zax,zay,zaz,zba,aUn,zbb,zbc,zbd,zbe,zbf,zbg,zbh,zbi,zbj,zbk,zbl,zbm,zbn,flat,simple,zbo,zbp,zbq,zbr,zbs,zbt,zbu,zbv,zbw,zbx,zby,zbz,zca,zcb,zcc,zcd,zce,zcf,zcg,zch,zci,zcj,zck,zcl,zcm,zcn,zco,zcp,zcq,zcr,Nat.reduceEqDiff,Nat.reduceLT,Nat.reduceAdd,Nat.reduceSub,reduceIte,Kt_P,zcs,zct,zcu,zcv,zcw,zcx,zcy,zcz,zda,zdb,zdc,zdd,zde,zdf,zdg,zdh,zdi,zdj,zdk,reduceCtorEq,zdl,zdm,zdn,goInt,zdo,zdp,zdq,zdr,zds,zdt,zdu,zdv,zdw,zdx,zdy,zdz,zea,zeb,zec,zed,zdk,zee,zef,zeg,zeh,zei,zej,zek,zel,zem,zen,zeo,zep,zeq,zer,zes,zet,zeu,zev,zew,zex,zey,ya,yb,yc,yd,ye,yf,ts_int,ts_int64,ts_bool,ts_ints,ts_post,ts_posts,yg,yh,yi,yj,yk,yl,ym,ts_intsl,ts_int64s,ts_bools,ts_side,ts_sideb,ts_pints,ts_pbool,aPure,aLen]; exact aSrc_box hQ1 rfl) ⟨rfl, rfl⟩ (by omega)
      ⟨by omega, rfl, by omega, by omega⟩ (hP.fr hF3 fun _ _ h => h) fun q2 G2 hq2 hm4 hF4 hA4 => ?_
    simp only [zfd,zaa,zab,zac,zad,zae,zaf,zag,zah,zai,zaj,zak,zal,zam,zan,zao,zap,zaq,zar,zas,zat,zau,zav,zaw,zax,zay,zaz,zba,aUn,zbb,zbc,zbd,zbe,zbf,zbg,zbh,zbi,zbj,zbk,zbl,zbm,zbn,flat,simple,zbo,zbp,zbq,zbr,zbs,zbt,zbu,zbv,zbw,zbx,zby,zbz,zca,zcb,zcc,zcd,zce,zcf,zcg,zch,zci,zcj,zck,zcl,zcm,zcn,zco,zcp,zcq,zcr,Nat.reduceEqDiff,Nat.reduceLT,Nat.reduceAdd,Nat.reduceSub,reduceIte,Kt_P,zcs,zct,zcu,zcv,zcw,zcx,zcy,zcz,zda,zdb,zdc,zdd,zde,zdf,zdg,zdh,zdi,zdj,zdk,reduceCtorEq,zdl,zdm,zdn,goInt,zdo,zdp,zdq,zdr,zds,zdt,zdu,zdv,zdw,zdx,zdy,zdz,zea,zeb,zec,zed,zdk,zee,zef,zeg,zeh,zei,zej,zek,zel,zem,zen,zeo,zep,zeq,zer,zes,zet,zeu,zev,zew,zex,zey,ya,yb,yc,yd,ye,yf,ts_int,ts_int64,ts_bool,ts_ints,ts_post,ts_posts,yg,yh,yi,yj,yk,yl,ym,ts_intsl,ts_int64s,ts_bools,ts_side,ts_sideb,ts_pints,ts_pbool,aPure,aLen,e4,hws] at hF4 hA4 ⊢
    have ks : l.take (i + 1) = l.take i ++ [l[i]] := List.take_succ_eq_append_getElem hlt
    refine ⟨l.length - (i + 1), by omega, i + 1, .slice (some ⟨q2, 0, none⟩) (i + 1) (i + 1), by simp [put_at, e0], rfl, by omega, (Fr.trans hE hF3 fun _ _ h => h).trans hF4 fun b hb hc => by have := hblk b hc; omega, ?_, fun b hb => ?_⟩
    · rw [ks]
      unfold ints at hA4 ⊢
      rw [List.map_append]
      exact hA4
    · simp only [blockOf] at hb
      omega
  · have : i = l.length := by omega
    subst this
    rw [List.take_length] at hP
    simp only [zfd,zaa,zab,zac,zad,zae,zaf,zag,zah,zai,zaj,zak,zal,zam,zan,zao,zap,zaq,zar,zas,zat,zau,zav,zaw,zax,zay,zaz,zba,aUn,zbb,zbc,zbd,zbe,zbf,zbg,zbh,zbi,zbj,zbk,zbl,zbm,zbn,flat,simple,zbo,zbp,zbq,zbr,zbs,zbt,zbu,zbv,zbw,zbx,zby,zbz,zca,zcb,zcc,zcd,zce,zcf,zcg,zch,zci,zcj,zck,zcl,zcm,zcn,zco,zcp,zcq,zcr,Nat.reduceEqDiff,Nat.reduceLT,Nat.reduceAdd,Nat.reduceSub,reduceIte,Kt_P,zcs,zct,zcu,zcv,zcw,zcx,zcy,zcz,zda,zdb,zdc,zdd,zde,zdf,zdg,zdh,zdi,zdj,zdk,reduceCtorEq,zdl,zdm,zdn,goInt,zdo,zdp,zdq,zdr,zds,zdt,zdu,zdv,zdw,zdx,zdy,zdz,zea,zeb,zec,zed,zdk,zee,zef,zeg,zeh,zei,zej,zek,zel,zem,zen,zeo,zep,zeq,zer,zes,zet,zeu,zev,zew,zex,zey,ya,yb,yc,yd,ye,yf,ts_int,ts_int64,ts_bool,ts_ints,ts_post,ts_posts,yg,yh,yi,yj,yk,yl,ym,ts_intsl,ts_int64s,ts_bools,ts_side,ts_sideb,ts_pints,ts_pbool,aPure,aLen]
    refine Lop_inv (fun k e H => ∃ (j : Nat) (lv : Value), (e 3 = lv ∧ e 5 = .int .i64 j) ∧ k = 16 - j ∧ j ≤ 16 ∧ Ext A H ∧ Acc H 3 1 lv (l.length + j) (ints (l ++ markL 90 j 0)) ∧ (∀ b, blockOf lv b → A.next ≤ b))
      ?_ 16 _ _ ⟨0, _, by simp [put_at, e3], by simp, by simp, hE, by simpa [markL] using hP, hblk⟩
    clear hP hblk hE hAH e0 e3 e4
    rintro k e H ⟨j, lv, ⟨e3, e5⟩, rfl, hj, hE, hP, hblk⟩
    have hAH := hE.next
    obtain ⟨o2, hlv⟩ := hP.at
    subst hlv
    simp only [zfd,zaa,zab,zac,zad,zae,zaf,zag,zah,zai,zaj,zak,zal,zam,zan,zao,zap,zaq,zar,zas,zat,zau,zav,zaw,zax,zay,zaz,zba,aUn,zbb,zbc,zbd,zbe,zbf,zbg,zbh,zbi,zbj,zbk,zbl,zbm,zbn,flat,simple,zbo,zbp,zbq,zbr,zbs,zbt,zbu,zbv,zbw,zbx,zby,zbz,zca,zcb,zcc,zcd,zce,zcf,zcg,zch,zci,zcj,zck,zcl,zcm,zcn,zco,zcp,zcq,zcr,Nat.reduceEqDiff,Nat.reduceLT,Nat.reduceAdd,Nat.reduceSub,reduceIte,Kt_P,zcs,zct,zcu,zcv,zcw,zcx,zcy,zcz,zda,zdb,zdc,zdd,zde,zdf,zdg,zdh,zdi,zdj,zdk,reduceCtorEq,zdl,zdm,zdn,goInt,zdo,zdp,zdq,zdr,zds,zdt,zdu,zdv,zdw,zdx,zdy,zdz,zea,zeb,zec,zed,zdk,zee,zef,zeg,zeh,zei,zej,zek,zel,zem,zen,zeo,zep,zeq,zer,zes,zet,zeu,zev,zew,zex,zey,ya,yb,yc,yd,ye,yf,ts_int,ts_int64,ts_bool,ts_ints,ts_post,ts_posts,yg,yh,yi,yj,yk,yl,ym,ts_intsl,ts_int64s,ts_bools,ts_side,ts_sideb,ts_pints,ts_pbool,aPure,aLen,e3,e5]
    refine Way_of (fun hlt => ?_) (fun hge => ?_)
    · have hws : IntKind.i64.wrap ((j : Int) + 1) = ((j + 1 : Nat) : Int) := by rw [wrap_i64 (by omega)]; omega
      simp only [zfd,zaa,zab,zac,zad,zae,zaf,zag,zah,zai,zaj,zak,zal,zam,zan,zao,zap,zaq,zar,zas,zat,zau,zav,zaw,zax,zay,zaz,zba,aUn,zbb,zbc,zbd,zbe,zbf,zbg,zbh,zbi,zbj,zbk,zbl,zbm,zbn,flat,simple,zbo,zbp,zbq,zbr,zbs,zbt,zbu,zbv,zbw,zbx,zby,zbz,zca,zcb,zcc,zcd,zce,zcf,zcg,zch,zci,zcj,zck,zcl,zcm,zcn,zco,zcp,zcq,zcr,Nat.reduceEqDiff,Nat.reduceLT,Nat.reduceAdd,Nat.reduceSub,reduceIte,Kt_P,zcs,zct,zcu,zcv,zcw,zcx,zcy,zcz,zda,zdb,zdc,zdd,zde,zdf,zdg,zdh,zdi,zdj,zdk,reduceCtorEq,zdl,zdm,zdn,goInt,zdo,zdp,zdq,zdr,zds,zdt,zdu,zdv,zdw,zdx,zdy,zdz,zea,zeb,zec,zed,zdk,zee,zef,zeg,zeh,zei,zej,zek,zel,zem,zen,zeo,zep,zeq,zer,zes,zet,zeu,zev,zew,zex,zey,ya,yb,yc,yd,ye,yf,ts_int,ts_int64,ts_bool,ts_ints,ts_post,ts_posts,yg,yh,yi,yj,yk,yl,ym,ts_intsl,ts_int64s,ts_bools,ts_side,ts_sideb,ts_pints,ts_pbool,aPure,aLen,e3,e5]
      rw [CalF_cal (Kt_prim (by decide) _ _)]
      refine markI_ok H 90 j (by omega) (by omega) _ ?_
      simp only [zfd,zaa,zab,zac,zad,zae,zaf,zag,zah,zai,zaj,zak,zal,zam,zan,zao,zap,zaq,zar,zas,zat,zau,zav,zaw,zax,zay,zaz,zba,aUn,zbb,zbc,zbd,zbe,zbf,zbg,zbh,zbi,zbj,zbk,zbl,zbm,zbn,flat,simple,zbo,zbp,zbq,zbr,zbs,zbt,zbu,zbv,zbw,zbx,zby,zbz,zca,zcb,zcc,zcd,zce,zcf,zcg,zch,zci,zcj,zck,zcl,zcm,zcn,zco,zcp,zcq,zcr,Nat.reduceEqDiff,Nat.reduceLT,Nat.reduceAdd,Nat.reduceSub,reduceIte,Kt_P,zcs,zct,zcu,zcv,zcw,zcx,zcy,zcz,zda,zdb,zdc,zdd,zde,zdf,zdg,zdh,zdi,zdj,zdk,reduceCtorEq,zdl,zdm,zdn,goInt,zdo,zdp,zdq,zdr,zds,zdt,zdu,zdv,zdw,zdx,zdy,zdz,zea,zeb,zec,zed,zdk,zee,zef,zeg,zeh,zei,zej,zek,zel,zem,zen,zeo,zep,zeq,zer,zes,zet,zeu,zev,zew,zex,zey,ya,yb,yc,yd,ye,yf,ts_int,ts_int64,ts_bool,ts_ints,ts_post,ts_posts,yg,yh,yi,yj,yk,yl,ym,ts_intsl,ts_int64s,ts_bools,ts_side,ts_sideb,ts_pints,ts_pbool,aPure,aLen,e3,e5]
      refine OpW_buildSlice_of (cs := [.int .i64 (-1000000 * (90 + 1) - (j : Int))]) Tryd.underlying42 ts_int tz_int (by decide) rfl rfl rfl fun q1 G1 hq1 hm3 hF3 hQ1 => ?_
      simp only [zfd,zaa,zab,zac,zad,zae,zaf,zag,zah,zai,zaj,zak,zal,zam,zan,zao,zap,zaq,zar,zas,zat,zau,zav,zaw,zax,zay,zaz,zba,aUn,zbb,zbc,zbd,zbe,zbf,zbg,zbh,zbi,zbj,zbk,zbl,zbm,zbn,flat,simple,zbo,zbp,zbq,zbr,zbs,zbt,zbu,zbv,zbw,zbx,zby,zbz,zca,zcb,zcc,zcd,zce,zcf,zcg,zch,zci,zcj,zck,zcl,zcm,zcn,zco,zcp,zcq,zcr,Nat.reduceEqDiff,Nat.reduceLT,Nat.reduceAdd,Nat.reduceSub,reduceIte,Kt_P,zcs,zct,zcu,zcv,zcw,zcx,zcy,zcz,zda,zdb,zdc,zdd,zde,zdf,zdg,zdh,zdi,zdj,zdk,reduceCtorEq,zdl,zdm,zdn,goInt,zdo,zdp,zdq,zdr,zds,zdt,zdu,zdv,zdw,zdx,zdy,zdz,zea,zeb,zec,zed,zdk,zee,zef,zeg,zeh,zei,zej,zek,zel,zem,zen,zeo,zep,zeq,zer,zes,zet,zeu,zev,zew,zex,zey,ya,yb,yc,yd,ye,yf,ts_int,ts_int64,ts_bool,ts_ints,ts_post,ts_posts,yg,yh,yi,yj,yk,yl,ym,ts_intsl,ts_int64s,ts_bools,ts_side,ts_sideb,ts_pints,ts_pbool,aPure,aLen]
      refine OpW_append_of (n := (l.length + j)) (k := 1) ⟨rfl, rfl⟩ Tryd.underlying42 (by rw [Kt_P, Tryd.underlying42]; rfl) ts_int tb_int tz_int (by simp only [zfd,zaa,zab,zac,zad,zae,zaf,zag,zah,zai,zaj,zak,zal,zam,zan,zao,zap,zaq,zar,zas,zat,zau,zav,zaw,zax,zay,zaz,zba,aUn,zbb,zbc,zbd,zbe,zbf,zbg,zbh,zbi,zbj,zbk,zbl,zbm,zbn,flat,simple,zbo,zbp,zbq,zbr,zbs,zbt,zbu,zbv,zbw,zbx,zby,zbz,zca,zcb,zcc,zcd,zce,zcf,zcg,zch,zci,zcj,zck,zcl,zcm,zcn,zco,zcp,zcq,zcr,Nat.reduceEqDiff,Nat.reduceLT,Nat.reduceAdd,Nat.reduceSub,reduceIte,Kt_P,zcs,zct,zcu,zcv,zcw,zcx,zcy,zcz,zda,zdb,zdc,zdd,zde,zdf,zdg,zdh,zdi,zdj,zdk,reduceCtorEq,zdl,zdm,zdn,goInt,zdo,zdp,zdq,zdr,zds,zdt,zdu,zdv,zdw,zdx,zdy,zdz,zea,zeb,zec,zed,zdk,zee,zef,zeg,zeh,zei,zej,zek,zel,zem,zen,zeo,zep,zeq,zer,zes,zet,zeu,zev,zew,zex,zey,ya,yb,yc,yd,ye,yf,ts_int,ts_int64,ts_bool,ts_ints,ts_post,ts_posts,yg,yh,yi,yj,yk,yl,ym,ts_intsl,ts_int64s,ts_bools,ts_side,ts_sideb,ts_pints,ts_pbool,aPure,aLen]; exact aSrc_box hQ1 rfl) ⟨rfl, rfl⟩ (by omega)
        ⟨by omega, rfl, by omega, by omega⟩ (hP.fr hF3 fun _ _ h => h) fun q2 G2 hq2 hm4 hF4 hA4 => ?_
      simp only [zfd,zaa,zab,zac,zad,zae,zaf,zag,zah,zai,zaj,zak,zal,zam,zan,zao,zap,zaq,zar,zas,zat,zau,zav,zaw,zax,zay,zaz,zba,aUn,zbb,zbc,zbd,zbe,zbf,zbg,zbh,zbi,zbj,zbk,zbl,zbm,zbn,flat,simple,zbo,zbp,zbq,zbr,zbs,zbt,zbu,zbv,zbw,zbx,zby,zbz,zca,zcb,zcc,zcd,zce,zcf,zcg,zch,zci,zcj,zck,zcl,zcm,zcn,zco,zcp,zcq,zcr,Nat.reduceEqDiff,Nat.reduceLT,Nat.reduceAdd,Nat.reduceSub,reduceIte,Kt_P,zcs,zct,zcu,zcv,zcw,zcx,zcy,zcz,zda,zdb,zdc,zdd,zde,zdf,zdg,zdh,zdi,zdj,zdk,reduceCtorEq,zdl,zdm,zdn,goInt,zdo,zdp,zdq,zdr,zds,zdt,zdu,zdv,zdw,zdx,zdy,zdz,zea,zeb,zec,zed,zdk,zee,zef,zeg,zeh,zei,zej,zek,zel,zem,zen,zeo,zep,zeq,zer,zes,zet,zeu,zev,zew,zex,zey,ya,yb,yc,yd,ye,yf,ts_int,ts_int64,ts_bool,ts_ints,ts_post,ts_posts,yg,yh,yi,yj,yk,yl,ym,ts_intsl,ts_int64s,ts_bools,ts_side,ts_sideb,ts_pints,ts_pbool,aPure,aLen,e5,hws] at hF4 hA4 ⊢
      refine ⟨16 - (j + 1), by omega, j + 1, .slice (some ⟨q2, 0, none⟩) (l.length + j + 1) (l.length + j + 1), by simp [put_at], rfl, by omega, (Fr.trans hE hF3 fun _ _ h => h).trans hF4 fun b hb hc => by have := hblk b hc; omega, ?_, fun b hb => ?_⟩
      · rw [markL_succ, ← List.append_assoc, ← Nat.add_assoc]
        unfold ints at hA4 ⊢
        rw [List.map_append]
        simpa using hA4
      · simp only [blockOf] at hb
        omega
    · have : j = 16 := by omega
      subst this
      simp only [zfd,zaa,zab,zac,zad,zae,zaf,zag,zah,zai,zaj,zak,zal,zam,zan,zao,zap,zaq,zar,zas,zat,zau,zav,zaw,zax,zay,zaz,zba,aUn,zbb,zbc,zbd,zbe,zbf,zbg,zbh,zbi,zbj,zbk,zbl,zbm,zbn,flat,simple,zbo,zbp,zbq,zbr,zbs,zbt,zbu,zbv,zbw,zbx,zby,zbz,zca,zcb,zcc,zcd,zce,zcf,zcg,zch,zci,zcj,zck,zcl,zcm,zcn,zco,zcp,zcq,zcr,Nat.reduceEqDiff,Nat.reduceLT,Nat.reduceAdd,Nat.reduceSub,reduceIte,Kt_P,zcs,zct,zcu,zcv,zcw,zcx,zcy,zcz,zda,zdb,zdc,zdd,zde,zdf,zdg,zdh,zdi,zdj,zdk,reduceCtorEq,zdl,zdm,zdn,goInt,zdo,zdp,zdq,zdr,zds,zdt,zdu,zdv,zdw,zdx,zdy,zdz,zea,zeb,zec,zed,zdk,zee,zef,zeg,zeh,zei,zej,zek,zel,zem,zen,zeo,zep,zeq,zer,zes,zet,zeu,zev,zew,zex,zey,ya,yb,yc,yd,ye,yf,ts_int,ts_int64,ts_bool,ts_ints,ts_post,ts_posts,yg,yh,yi,yj,yk,yl,ym,ts_intsl,ts_int64s,ts_bools,ts_side,ts_sideb,ts_pints,ts_pbool,aPure,aLen,e3]
      exact hq _ H hE hP hblk

/-- The head of a slice. -/
theorem OpW_sliceTo {K : Ctx} {e : Env} {A : AHeap} {Q : Value → AHeap → Prop} {t el s : Nat} (ht : K.P.underlying t = some (.slice el)) (hs : tsize K.P el = some s) {x hi : Operand} {b n c h : Nat} {k : IntKind} {r : Row} (hok : okOpd x = true ∧ okOpd hi = true)
    (hx : opv e x = .slice (some ⟨b, 0, none⟩) n c) (hh : opv e hi = .int k h) (hr : arow A b = some r) (hc : h ≤ c) (hq : Q (.slice (some ⟨b, 0, none⟩) h c) A) : OpW K (.slice t x none (some hi) none) e A Q := by
  refine OpW_by rfl ?_ (evB_read ?_ ?_) hq
  · have h1 := hok.1
    have h2 := hok.2
    simp [Op.operands, h1, h2]
  · simp only [aPure,ht]
  · simp only [aRead,aSlice,ht,hx,hs,hr,Option.map_some,Option.map_none,aBounds,hh]
    rw [if_pos (by omega)]
    simp

theorem App.arow' {A : AHeap} {b : Nat} {el : TypeId} {cells : List Value} (h : App A b el cells) : ∃ r, arow A b = some r ∧ r.cells = cells := by
  obtain ⟨_, ch, fz, hg⟩ := h
  exact ⟨_, by unfold arow; rw [hg]; rfl, rfl⟩

/-- Numbers lent: sixteen marks behind. -/
def LInts (W : Nat → Prop) (A : AHeap) (v : Value) (l : List Int) : Prop :=
  ∃ b, v = .slice (some ⟨b, 0, none⟩) l.length (l.length + 16) ∧ App A b 3 (ints (l ++ markL 90 16 0)) ∧ W b ∧ (∀ x ∈ l, inI64 x) ∧ l.length ≤ 4000000
theorem LInts.ints {W : Nat → Prop} {A : AHeap} {v : Value} {l : List Int} (h : LInts W A v l) : Ints A v l := by
  obtain ⟨b, h1, h2, _, h4, h5⟩ := h
  refine ⟨⟨by simp [Sh.ints], .inr ⟨b, _, h1, by omega, Sh.ints (markL 90 16 0), ?_⟩⟩, h4, by omega⟩
  have := h2.dat
  unfold Sh.ints at this ⊢
  rwa [List.map_append] at this
theorem LInts.fr {W M : Nat → Prop} {A A' : AHeap} {v : Value} {l : List Int} (h : LInts W A v l) (hF : Fr M A A') (hm : ∀ b, blockOf v b → ¬ M b) : LInts W A' v l := by
  obtain ⟨b, h1, h2, h3⟩ := h
  exact ⟨b, h1, hF.app h2 (hm b (by rw [h1]; rfl)), h3⟩
theorem LInts.mono {W W' : Nat → Prop} {A : AHeap} {v : Value} {l : List Int} (h : LInts W A v l) (hw : ∀ b, blockOf v b → W b → W' b) : LInts W' A v l := by
  obtain ⟨b, h1, h2, h3, h4⟩ := h
  exact ⟨b, h1, h2, hw b (by rw [h1]; rfl) h3, h4⟩
theorem LInts.lt {W : Nat → Prop} {A : AHeap} {v : Value} {l : List Int} (h : LInts W A v l) : ∀ b, blockOf v b → b < A.next ∧ W b := by
  obtain ⟨b, h1, h2, h3, _⟩ := h
  intro c hc
  rw [h1] at hc
  cases hc
  exact ⟨h2.1, h3⟩

theorem lentI_ok (A : AHeap) (v : Value) (l : List Int) (h : Ints A v l) (hl : l.length ≤ 4000000) (Q : Value → AHeap → Prop)
    (hq : ∀ u A', Ext A A' → LInts (fun b => A.next ≤ b) A' u l → Q u A') : Cal Kt 42 #[v] A Q := by
  refine Cal_of (nt := 10) (rs := [.tmp 2]) fn_lentI rfl rfl rfl (Nat.le_of_ble_eq_true rfl) ?_
  simp only [zfd,zaa,zab,zac,zad,zae,zaf,zag,zah,zai,zaj,zak,zal,zam,zan,zao,zap,zaq,zar,zas,zat,zau,zav,zaw,zax,zay,zaz,zba,aUn,zbb,zbc,zbd,zbe,zbf,zbg,zbh,zbi,zbj,zbk,zbl,zbm,zbn,flat,simple,zbo,zbp,zbq,zbr,zbs,zbt,zbu,zbv,zbw,zbx,zby,zbz,zca,zcb,zcc,zcd,zce,zcf,zcg,zch,zci,zcj,zck,zcl,zcm,zcn,zco,zcp,zcq,zcr,Nat.reduceEqDiff,Nat.reduceLT,Nat.reduceAdd,Nat.reduceSub,reduceIte,Kt_P,zcs,zct,zcu,zcv,zcw,zcx,zcy,zcz,zda,zdb,zdc,zdd,zde,zdf,zdg,zdh,zdi,zdj,zdk,reduceCtorEq,zdl,zdm,zdn,goInt,zdo,zdp,zdq,zdr,zds,zdt,zdu,zdv,zdw,zdx,zdy,zdz,zea,zeb,zec,zed,zdk,zee,zef,zeg,zeh,zei,zej,zek,zel,zem,zen,zeo,zep,zeq,zer,zes,zet,zeu,zev,zew,zex,zey,ya,yb,yc,yd,ye,yf,ts_int,ts_int64,ts_bool,ts_ints,ts_post,ts_posts,yg,yh,yi,yj,yk,yl,ym,ts_intsl,ts_int64s,ts_bools,ts_side,ts_sideb,ts_pints,ts_pbool,aPure,aLen]
  rw [CalF_cal (Kt_prim (by decide) _ _)]
  refine fullI_ok A v l h hl _ fun u A1 hE hA hblk => ?_
  obtain ⟨o, c, hv, _, hin, hlen⟩ := h.opened
  subst hv
  rcases hA.2 with ⟨_, h0⟩ | ⟨b, rfl, hB⟩
  · omega
  · obtain ⟨r, hr, _⟩ := hB.arow'
    simp only [zfd,zaa,zab,zac,zad,zae,zaf,zag,zah,zai,zaj,zak,zal,zam,zan,zao,zap,zaq,zar,zas,zat,zau,zav,zaw,zax,zay,zaz,zba,aUn,zbb,zbc,zbd,zbe,zbf,zbg,zbh,zbi,zbj,zbk,zbl,zbm,zbn,flat,simple,zbo,zbp,zbq,zbr,zbs,zbt,zbu,zbv,zbw,zbx,zby,zbz,zca,zcb,zcc,zcd,zce,zcf,zcg,zch,zci,zcj,zck,zcl,zcm,zcn,zco,zcp,zcq,zcr,Nat.reduceEqDiff,Nat.reduceLT,Nat.reduceAdd,Nat.reduceSub,reduceIte,Kt_P,zcs,zct,zcu,zcv,zcw,zcx,zcy,zcz,zda,zdb,zdc,zdd,zde,zdf,zdg,zdh,zdi,zdj,zdk,reduceCtorEq,zdl,zdm,zdn,goInt,zdo,zdp,zdq,zdr,zds,zdt,zdu,zdv,zdw,zdx,zdy,zdz,zea,zeb,zec,zed,zdk,zee,zef,zeg,zeh,zei,zej,zek,zel,zem,zen,zeo,zep,zeq,zer,zes,zet,zeu,zev,zew,zex,zey,ya,yb,yc,yd,ye,yf,ts_int,ts_int64,ts_bool,ts_ints,ts_post,ts_posts,yg,yh,yi,yj,yk,yl,ym,ts_intsl,ts_int64s,ts_bools,ts_side,ts_sideb,ts_pints,ts_pbool,aPure,aLen]
    refine OpW_sliceTo (n := l.length + 16) (c := l.length + 16) (k := .i64) (h := l.length) Tryd.underlying42 ts_int ⟨rfl, rfl⟩ (by simp only [zfd,zaa,zab,zac,zad,zae,zaf,zag,zah,zai,zaj,zak,zal,zam,zan,zao,zap,zaq,zar,zas,zat,zau,zav,zaw,zax,zay,zaz,zba,aUn,zbb,zbc,zbd,zbe,zbf,zbg,zbh,zbi,zbj,zbk,zbl,zbm,zbn,flat,simple,zbo,zbp,zbq,zbr,zbs,zbt,zbu,zbv,zbw,zbx,zby,zbz,zca,zcb,zcc,zcd,zce,zcf,zcg,zch,zci,zcj,zck,zcl,zcm,zcn,zco,zcp,zcq,zcr,Nat.reduceEqDiff,Nat.reduceLT,Nat.reduceAdd,Nat.reduceSub,reduceIte,Kt_P,zcs,zct,zcu,zcv,zcw,zcx,zcy,zcz,zda,zdb,zdc,zdd,zde,zdf,zdg,zdh,zdi,zdj,zdk,reduceCtorEq,zdl,zdm,zdn,goInt,zdo,zdp,zdq,zdr,zds,zdt,zdu,zdv,zdw,zdx,zdy,zdz,zea,zeb,zec,zed,zdk,zee,zef,zeg,zeh,zei,zej,zek,zel,zem,zen,zeo,zep,zeq,zer,zes,zet,zeu,zev,zew,zex,zey,ya,yb,yc,yd,ye,yf,ts_int,ts_int64,ts_bool,ts_ints,ts_post,ts_posts,yg,yh,yi,yj,yk,yl,ym,ts_intsl,ts_int64s,ts_bools,ts_side,ts_sideb,ts_pints,ts_pbool,aPure,aLen]) (by simp only [zfd,zaa,zab,zac,zad,zae,zaf,zag,zah,zai,zaj,zak,zal,zam,zan,zao,zap,zaq,zar,zas,zat,zau,zav,zaw,zax,zay,zaz,zba,aUn,zbb,zbc,zbd,zbe,zbf,zbg,zbh,zbi,zbj,zbk,zbl,zbm,zbn,flat,simple,zbo,zbp,zbq,zbr,zbs,zbt,zbu,zbv,zbw,zbx,zby,zbz,zca,zcb,zcc,zcd,zce,zcf,zcg,zch,zci,zcj,zck,zcl,zcm,zcn,zco,zcp,zcq,zcr,Nat.reduceEqDiff,Nat.reduceLT,Nat.reduceAdd,Nat.reduceSub,reduceIte,Kt_P,zcs,zct,zcu,zcv,zcw,zcx,zcy,zcz,zda,zdb,zdc,zdd,zde,zdf,zdg,zdh,zdi,zdj,zdk,reduceCtorEq,zdl,zdm,zdn,goInt,zdo,zdp,zdq,zdr,zds,zdt,zdu,zdv,zdw,zdx,zdy,zdz,zea,zeb,zec,zed,zdk,zee,zef,zeg,zeh,zei,zej,zek,zel,zem,zen,zeo,zep,zeq,zer,zes,zet,zeu,zev,zew,zex,zey,ya,yb,yc,yd,ye,yf,ts_int,ts_int64,ts_bool,ts_ints,ts_post,ts_posts,yg,yh,yi,yj,yk,yl,ym,ts_intsl,ts_int64s,ts_bools,ts_side,ts_sideb,ts_pints,ts_pbool,aPure,aLen]) hr (by omega) ?_
    simp only [zfd,zaa,zab,zac,zad,zae,zaf,zag,zah,zai,zaj,zak,zal,zam,zan,zao,zap,zaq,zar,zas,zat,zau,zav,zaw,zax,zay,zaz,zba,aUn,zbb,zbc,zbd,zbe,zbf,zbg,zbh,zbi,zbj,zbk,zbl,zbm,zbn,flat,simple,zbo,zbp,zbq,zbr,zbs,zbt,zbu,zbv,zbw,zbx,zby,zbz,zca,zcb,zcc,zcd,zce,zcf,zcg,zch,zci,zcj,zck,zcl,zcm,zcn,zco,zcp,zcq,zcr,Nat.reduceEqDiff,Nat.reduceLT,Nat.reduceAdd,Nat.reduceSub,reduceIte,Kt_P,zcs,zct,zcu,zcv,zcw,zcx,zcy,zcz,zda,zdb,zdc,zdd,zde,zdf,zdg,zdh,zdi,zdj,zdk,reduceCtorEq,zdl,zdm,zdn,goInt,zdo,zdp,zdq,zdr,zds,zdt,zdu,zdv,zdw,zdx,zdy,zdz,zea,zeb,zec,zed,zdk,zee,zef,zeg,zeh,zei,zej,zek,zel,zem,zen,zeo,zep,zeq,zer,zes,zet,zeu,zev,zew,zex,zey,ya,yb,yc,yd,ye,yf,ts_int,ts_int64,ts_bool,ts_ints,ts_post,ts_posts,yg,yh,yi,yj,yk,yl,ym,ts_intsl,ts_int64s,ts_bools,ts_side,ts_sideb,ts_pints,ts_pbool,aPure,aLen]
    exact hq _ A1 hE ⟨b, rfl, hB, hblk b rfl, hin, hl⟩

theorem lentP1_ok (A : AHeap) (d : Int) (v : Value) (l : List Int) (h : Ints A v l) (hl : l.length ≤ 4000000) (Q : Value → AHeap → Prop)
    (hq : ∀ u A', Ext A A' → LInts (fun b => A.next ≤ b) A' u l → Q (.agg #[.int .i64 d, u]) A') : Cal Kt 19 #[.agg #[.int .i64 d, v]] A Q := by
  refine Cal_of (nt := 10) (rs := [.cell 2 44]) fn_lentP1 rfl rfl rfl (Nat.le_of_ble_eq_true rfl) ?_
  obtain ⟨o, c, hv, _⟩ := h.opened
  subst hv
  simp only [zfd,zaa,zab,zac,zad,zae,zaf,zag,zah,zai,zaj,zak,zal,zam,zan,zao,zap,zaq,zar,zas,zat,zau,zav,zaw,zax,zay,zaz,zba,aUn,zbb,zbc,zbd,zbe,zbf,zbg,zbh,zbi,zbj,zbk,zbl,zbm,zbn,flat,simple,zbo,zbp,zbq,zbr,zbs,zbt,zbu,zbv,zbw,zbx,zby,zbz,zca,zcb,zcc,zcd,zce,zcf,zcg,zch,zci,zcj,zck,zcl,zcm,zcn,zco,zcp,zcq,zcr,Nat.reduceEqDiff,Nat.reduceLT,Nat.reduceAdd,Nat.reduceSub,reduceIte,Kt_P,zcs,zct,zcu,zcv,zcw,zcx,zcy,zcz,zda,zdb,zdc,zdd,zde,zdf,zdg,zdh,zdi,zdj,zdk,reduceCtorEq,zdl,zdm,zdn,goInt,zdo,zdp,zdq,zdr,zds,zdt,zdu,zdv,zdw,zdx,zdy,zdz,zea,zeb,zec,zed,zdk,zee,zef,zeg,zeh,zei,zej,zek,zel,zem,zen,zeo,zep,zeq,zer,zes,zet,zeu,zev,zew,zex,zey,ya,yb,yc,yd,ye,yf,ts_int,ts_int64,ts_bool,ts_ints,ts_post,ts_posts,yg,yh,yi,yj,yk,yl,ym,ts_intsl,ts_int64s,ts_bools,ts_side,ts_sideb,ts_pints,ts_pbool,aPure,aLen]
  refine OpW_box_of ts_post rfl fun b1 A1 hb1 hn1 hE1 hB1 => ?_
  replace hB1 : Box A1 b1 44 [.int .i64 d, .slice o l.length c] := hB1
  simp only [zfd,zaa,zab,zac,zad,zae,zaf,zag,zah,zai,zaj,zak,zal,zam,zan,zao,zap,zaq,zar,zas,zat,zau,zav,zaw,zax,zay,zaz,zba,aUn,zbb,zbc,zbd,zbe,zbf,zbg,zbh,zbi,zbj,zbk,zbl,zbm,zbn,flat,simple,zbo,zbp,zbq,zbr,zbs,zbt,zbu,zbv,zbw,zbx,zby,zbz,zca,zcb,zcc,zcd,zce,zcf,zcg,zch,zci,zcj,zck,zcl,zcm,zcn,zco,zcp,zcq,zcr,Nat.reduceEqDiff,Nat.reduceLT,Nat.reduceAdd,Nat.reduceSub,reduceIte,Kt_P,zcs,zct,zcu,zcv,zcw,zcx,zcy,zcz,zda,zdb,zdc,zdd,zde,zdf,zdg,zdh,zdi,zdj,zdk,reduceCtorEq,zdl,zdm,zdn,goInt,zdo,zdp,zdq,zdr,zds,zdt,zdu,zdv,zdw,zdx,zdy,zdz,zea,zeb,zec,zed,zdk,zee,zef,zeg,zeh,zei,zej,zek,zel,zem,zen,zeo,zep,zeq,zer,zes,zet,zeu,zev,zew,zex,zey,ya,yb,yc,yd,ye,yf,ts_int,ts_int64,ts_bool,ts_ints,ts_post,ts_posts,yg,yh,yi,yj,yk,yl,ym,ts_intsl,ts_int64s,ts_bools,ts_side,ts_sideb,ts_pints,ts_pbool,aPure,aLen]
  refine OpW_alloc_of ts_post tz_post rfl fun b2 A2 hb2 hn2 hE2 hB2 => ?_
  have hB1' := hE2.box hB1 fun h => h
  have l1 : aLoadVar Tryd.prog A2 44 (.pointer (some ⟨b1, 0, none⟩)) = some (.agg #[.int .i64 d, .slice o l.length c]) := hB1'.loadAgg (o := 0) Tryd.underlying44 rfl ts_post (Nat.le_refl _)
  simp only [zfd,zaa,zab,zac,zad,zae,zaf,zag,zah,zai,zaj,zak,zal,zam,zan,zao,zap,zaq,zar,zas,zat,zau,zav,zaw,zax,zay,zaz,zba,aUn,zbb,zbc,zbd,zbe,zbf,zbg,zbh,zbi,zbj,zbk,zbl,zbm,zbn,flat,simple,zbo,zbp,zbq,zbr,zbs,zbt,zbu,zbv,zbw,zbx,zby,zbz,zca,zcb,zcc,zcd,zce,zcf,zcg,zch,zci,zcj,zck,zcl,zcm,zcn,zco,zcp,zcq,zcr,Nat.reduceEqDiff,Nat.reduceLT,Nat.reduceAdd,Nat.reduceSub,reduceIte,Kt_P,zcs,zct,zcu,zcv,zcw,zcx,zcy,zcz,zda,zdb,zdc,zdd,zde,zdf,zdg,zdh,zdi,zdj,zdk,reduceCtorEq,zdl,zdm,zdn,goInt,zdo,zdp,zdq,zdr,zds,zdt,zdu,zdv,zdw,zdx,zdy,zdz,zea,zeb,zec,zed,zdk,zee,zef,zeg,zeh,zei,zej,zek,zel,zem,zen,zeo,zep,zeq,zer,zes,zet,zeu,zev,zew,zex,zey,ya,yb,yc,yd,ye,yf,ts_int,ts_int64,ts_bool,ts_ints,ts_post,ts_posts,yg,yh,yi,yj,yk,yl,ym,ts_intsl,ts_int64s,ts_bools,ts_side,ts_sideb,ts_pints,ts_pbool,aPure,aLen,l1]
  refine OpW_alloc_of ts_post tz_post rfl fun b3 A3 hb3 hn3 hE3 hB3 => ?_
  simp only [zfd,zaa,zab,zac,zad,zae,zaf,zag,zah,zai,zaj,zak,zal,zam,zan,zao,zap,zaq,zar,zas,zat,zau,zav,zaw,zax,zay,zaz,zba,aUn,zbb,zbc,zbd,zbe,zbf,zbg,zbh,zbi,zbj,zbk,zbl,zbm,zbn,flat,simple,zbo,zbp,zbq,zbr,zbs,zbt,zbu,zbv,zbw,zbx,zby,zbz,zca,zcb,zcc,zcd,zce,zcf,zcg,zch,zci,zcj,zck,zcl,zcm,zcn,zco,zcp,zcq,zcr,Nat.reduceEqDiff,Nat.reduceLT,Nat.reduceAdd,Nat.reduceSub,reduceIte,Kt_P,zcs,zct,zcu,zcv,zcw,zcx,zcy,zcz,zda,zdb,zdc,zdd,zde,zdf,zdg,zdh,zdi,zdj,zdk,reduceCtorEq,zdl,zdm,zdn,goInt,zdo,zdp,zdq,zdr,zds,zdt,zdu,zdv,zdw,zdx,zdy,zdz,zea,zeb,zec,zed,zdk,zee,zef,zeg,zeh,zei,zej,zek,zel,zem,zen,zeo,zep,zeq,zer,zes,zet,zeu,zev,zew,zex,zey,ya,yb,yc,yd,ye,yf,ts_int,ts_int64,ts_bool,ts_ints,ts_post,ts_posts,yg,yh,yi,yj,yk,yl,ym,ts_intsl,ts_int64s,ts_bools,ts_side,ts_sideb,ts_pints,ts_pbool,aPure,aLen]
  refine OpW_store_of (o := 0) hB3 ⟨rfl, rfl⟩ (by simp only [zfd,zaa,zab,zac,zad,zae,zaf,zag,zah,zai,zaj,zak,zal,zam,zan,zao,zap,zaq,zar,zas,zat,zau,zav,zaw,zax,zay,zaz,zba,aUn,zbb,zbc,zbd,zbe,zbf,zbg,zbh,zbi,zbj,zbk,zbl,zbm,zbn,flat,simple,zbo,zbp,zbq,zbr,zbs,zbt,zbu,zbv,zbw,zbx,zby,zbz,zca,zcb,zcc,zcd,zce,zcf,zcg,zch,zci,zcj,zck,zcl,zcm,zcn,zco,zcp,zcq,zcr,Nat.reduceEqDiff,Nat.reduceLT,Nat.reduceAdd,Nat.reduceSub,reduceIte,Kt_P,zcs,zct,zcu,zcv,zcw,zcx,zcy,zcz,zda,zdb,zdc,zdd,zde,zdf,zdg,zdh,zdi,zdj,zdk,reduceCtorEq,zdl,zdm,zdn,goInt,zdo,zdp,zdq,zdr,zds,zdt,zdu,zdv,zdw,zdx,zdy,zdz,zea,zeb,zec,zed,zdk,zee,zef,zeg,zeh,zei,zej,zek,zel,zem,zen,zeo,zep,zeq,zer,zes,zet,zeu,zev,zew,zex,zey,ya,yb,yc,yd,ye,yf,ts_int,ts_int64,ts_bool,ts_ints,ts_post,ts_posts,yg,yh,yi,yj,yk,yl,ym,ts_intsl,ts_int64s,ts_bools,ts_side,ts_sideb,ts_pints,ts_pbool,aPure,aLen]) ts_post (Nat.le_refl _) rfl fun A4 hn4 hF4 hB4 => ?_
  replace hB4 : Box A4 b3 44 [.int .i64 d, .slice o l.length c] := hB4
  have hE14 : Fr (fun j => j = b3) A1 A4 := Fr.trans (hE2.trans hE3).fr hF4 fun _ _ h => h
  have hB1'' := hE14.box hB1 (by omega)
  have l2 := hB1''.load (P := Tryd.prog) (o := 1) (t := 42) Tryd.underlying42 rfl rfl
  have h4 := (h.fr hE1).fr hE14
  simp only [zfd,zaa,zab,zac,zad,zae,zaf,zag,zah,zai,zaj,zak,zal,zam,zan,zao,zap,zaq,zar,zas,zat,zau,zav,zaw,zax,zay,zaz,zba,aUn,zbb,zbc,zbd,zbe,zbf,zbg,zbh,zbi,zbj,zbk,zbl,zbm,zbn,flat,simple,zbo,zbp,zbq,zbr,zbs,zbt,zbu,zbv,zbw,zbx,zby,zbz,zca,zcb,zcc,zcd,zce,zcf,zcg,zch,zci,zcj,zck,zcl,zcm,zcn,zco,zcp,zcq,zcr,Nat.reduceEqDiff,Nat.reduceLT,Nat.reduceAdd,Nat.reduceSub,reduceIte,Kt_P,zcs,zct,zcu,zcv,zcw,zcx,zcy,zcz,zda,zdb,zdc,zdd,zde,zdf,zdg,zdh,zdi,zdj,zdk,reduceCtorEq,zdl,zdm,zdn,goInt,zdo,zdp,zdq,zdr,zds,zdt,zdu,zdv,zdw,zdx,zdy,zdz,zea,zeb,zec,zed,zdk,zee,zef,zeg,zeh,zei,zej,zek,zel,zem,zen,zeo,zep,zeq,zer,zes,zet,zeu,zev,zew,zex,zey,ya,yb,yc,yd,ye,yf,ts_int,ts_int64,ts_bool,ts_ints,ts_post,ts_posts,yg,yh,yi,yj,yk,yl,ym,ts_intsl,ts_int64s,ts_bools,ts_side,ts_sideb,ts_pints,ts_pbool,aPure,aLen,l2]
  rw [CalF_cal (Kt_prim (by decide) _ _)]
  refine lentI_ok A4 _ l h4 hl _ fun u A5 hE5 hu => ?_
  obtain ⟨bu, hu1, hu2⟩ := hu
  subst hu1
  simp only [zfd,zaa,zab,zac,zad,zae,zaf,zag,zah,zai,zaj,zak,zal,zam,zan,zao,zap,zaq,zar,zas,zat,zau,zav,zaw,zax,zay,zaz,zba,aUn,zbb,zbc,zbd,zbe,zbf,zbg,zbh,zbi,zbj,zbk,zbl,zbm,zbn,flat,simple,zbo,zbp,zbq,zbr,zbs,zbt,zbu,zbv,zbw,zbx,zby,zbz,zca,zcb,zcc,zcd,zce,zcf,zcg,zch,zci,zcj,zck,zcl,zcm,zcn,zco,zcp,zcq,zcr,Nat.reduceEqDiff,Nat.reduceLT,Nat.reduceAdd,Nat.reduceSub,reduceIte,Kt_P,zcs,zct,zcu,zcv,zcw,zcx,zcy,zcz,zda,zdb,zdc,zdd,zde,zdf,zdg,zdh,zdi,zdj,zdk,reduceCtorEq,zdl,zdm,zdn,goInt,zdo,zdp,zdq,zdr,zds,zdt,zdu,zdv,zdw,zdx,zdy,zdz,zea,zeb,zec,zed,zdk,zee,zef,zeg,zeh,zei,zej,zek,zel,zem,zen,zeo,zep,zeq,zer,zes,zet,zeu,zev,zew,zex,zey,ya,yb,yc,yd,ye,yf,ts_int,ts_int64,ts_bool,ts_ints,ts_post,ts_posts,yg,yh,yi,yj,yk,yl,ym,ts_intsl,ts_int64s,ts_bools,ts_side,ts_sideb,ts_pints,ts_pbool,aPure,aLen]
  refine OpW_store_of (o := 1) (hE5.box hB4 fun h => h) ⟨rfl, rfl⟩ (by simp only [zfd,zaa,zab,zac,zad,zae,zaf,zag,zah,zai,zaj,zak,zal,zam,zan,zao,zap,zaq,zar,zas,zat,zau,zav,zaw,zax,zay,zaz,zba,aUn,zbb,zbc,zbd,zbe,zbf,zbg,zbh,zbi,zbj,zbk,zbl,zbm,zbn,flat,simple,zbo,zbp,zbq,zbr,zbs,zbt,zbu,zbv,zbw,zbx,zby,zbz,zca,zcb,zcc,zcd,zce,zcf,zcg,zch,zci,zcj,zck,zcl,zcm,zcn,zco,zcp,zcq,zcr,Nat.reduceEqDiff,Nat.reduceLT,Nat.reduceAdd,Nat.reduceSub,reduceIte,Kt_P,zcs,zct,zcu,zcv,zcw,zcx,zcy,zcz,zda,zdb,zdc,zdd,zde,zdf,zdg,zdh,zdi,zdj,zdk,reduceCtorEq,zdl,zdm,zdn,goInt,zdo,zdp,zdq,zdr,zds,zdt,zdu,zdv,zdw,zdx,zdy,zdz,zea,zeb,zec,zed,zdk,zee,zef,zeg,zeh,zei,zej,zek,zel,zem,zen,zeo,zep,zeq,zer,zes,zet,zeu,zev,zew,zex,zey,ya,yb,yc,yd,ye,yf,ts_int,ts_int64,ts_bool,ts_ints,ts_post,ts_posts,yg,yh,yi,yj,yk,yl,ym,ts_intsl,ts_int64s,ts_bools,ts_side,ts_sideb,ts_pints,ts_pbool,aPure,aLen]) ts_ints (Nat.le_refl _) rfl fun A6 hn6 hF6 hB6 => ?_
  replace hB6 : Box A6 b3 44 [.int .i64 d, .slice (some ⟨bu, 0, none⟩) l.length (l.length + 16)] := hB6
  have l3 : aLoadVar Tryd.prog A6 44 (.pointer (some ⟨b3, 0, none⟩)) = some (.agg #[.int .i64 d, .slice (some ⟨bu, 0, none⟩) l.length (l.length + 16)]) := hB6.loadAgg (o := 0) Tryd.underlying44 rfl ts_post (Nat.le_refl _)
  have hB2' : Box A6 b2 44 [.int .i64 0, .slice none 0 0] := hF6.box (hE5.box (hF4.box (hE3.box hB2 fun h => h) (by omega)) fun h => h) (by omega)
  have e5 := hE5.next
  simp only [zfd,zaa,zab,zac,zad,zae,zaf,zag,zah,zai,zaj,zak,zal,zam,zan,zao,zap,zaq,zar,zas,zat,zau,zav,zaw,zax,zay,zaz,zba,aUn,zbb,zbc,zbd,zbe,zbf,zbg,zbh,zbi,zbj,zbk,zbl,zbm,zbn,flat,simple,zbo,zbp,zbq,zbr,zbs,zbt,zbu,zbv,zbw,zbx,zby,zbz,zca,zcb,zcc,zcd,zce,zcf,zcg,zch,zci,zcj,zck,zcl,zcm,zcn,zco,zcp,zcq,zcr,Nat.reduceEqDiff,Nat.reduceLT,Nat.reduceAdd,Nat.reduceSub,reduceIte,Kt_P,zcs,zct,zcu,zcv,zcw,zcx,zcy,zcz,zda,zdb,zdc,zdd,zde,zdf,zdg,zdh,zdi,zdj,zdk,reduceCtorEq,zdl,zdm,zdn,goInt,zdo,zdp,zdq,zdr,zds,zdt,zdu,zdv,zdw,zdx,zdy,zdz,zea,zeb,zec,zed,zdk,zee,zef,zeg,zeh,zei,zej,zek,zel,zem,zen,zeo,zep,zeq,zer,zes,zet,zeu,zev,zew,zex,zey,ya,yb,yc,yd,ye,yf,ts_int,ts_int64,ts_bool,ts_ints,ts_post,ts_posts,yg,yh,yi,yj,yk,yl,ym,ts_intsl,ts_int64s,ts_bools,ts_side,ts_sideb,ts_pints,ts_pbool,aPure,aLen,l3]
  refine OpW_store_of (o := 0) hB2' ⟨rfl, rfl⟩ (by simp only [zfd,zaa,zab,zac,zad,zae,zaf,zag,zah,zai,zaj,zak,zal,zam,zan,zao,zap,zaq,zar,zas,zat,zau,zav,zaw,zax,zay,zaz,zba,aUn,zbb,zbc,zbd,zbe,zbf,zbg,zbh,zbi,zbj,zbk,zbl,zbm,zbn,flat,simple,zbo,zbp,zbq,zbr,zbs,zbt,zbu,zbv,zbw,zbx,zby,zbz,zca,zcb,zcc,zcd,zce,zcf,zcg,zch,zci,zcj,zck,zcl,zcm,zcn,zco,zcp,zcq,zcr,Nat.reduceEqDiff,Nat.reduceLT,Nat.reduceAdd,Nat.reduceSub,reduceIte,Kt_P,zcs,zct,zcu,zcv,zcw,zcx,zcy,zcz,zda,zdb,zdc,zdd,zde,zdf,zdg,zdh,zdi,zdj,zdk,reduceCtorEq,zdl,zdm,zdn,goInt,zdo,zdp,zdq,zdr,zds,zdt,zdu,zdv,zdw,zdx,zdy,zdz,zea,zeb,zec,zed,zdk,zee,zef,zeg,zeh,zei,zej,zek,zel,zem,zen,zeo,zep,zeq,zer,zes,zet,zeu,zev,zew,zex,zey,ya,yb,yc,yd,ye,yf,ts_int,ts_int64,ts_bool,ts_ints,ts_post,ts_posts,yg,yh,yi,yj,yk,yl,ym,ts_intsl,ts_int64s,ts_bools,ts_side,ts_sideb,ts_pints,ts_pbool,aPure,aLen]) ts_post (Nat.le_refl _) rfl fun A7 hn7 hF7 hB7 => ?_
  replace hB7 : Box A7 b2 44 [.int .i64 d, .slice (some ⟨bu, 0, none⟩) l.length (l.length + 16)] := hB7
  have l4 : aLoadVar Kt.P A7 44 (.pointer (some ⟨b2, 0, none⟩)) = some (.agg #[.int .i64 d, .slice (some ⟨bu, 0, none⟩) l.length (l.length + 16)]) := hB7.loadAgg (o := 0) Tryd.underlying44 rfl ts_post (Nat.le_refl _)
  simp only [zfd,zaa,zab,zac,zad,zae,zaf,zag,zah,zai,zaj,zak,zal,zam,zan,zao,zap,zaq,zar,zas,zat,zau,zav,zaw,zax,zay,zaz,zba,aUn,zbb,zbc,zbd,zbe,zbf,zbg,zbh,zbi,zbj,zbk,zbl,zbm,zbn,flat,simple,zbo,zbp,zbq,zbr,zbs,zbt,zbu,zbv,zbw,zbx,zby,zbz,zca,zcb,zcc,zcd,zce,zcf,zcg,zch,zci,zcj,zck,zcl,zcm,zcn,zco,zcp,zcq,zcr,Nat.reduceEqDiff,Nat.reduceLT,Nat.reduceAdd,Nat.reduceSub,reduceIte,Kt_P,zcs,zct,zcu,zcv,zcw,zcx,zcy,zcz,zda,zdb,zdc,zdd,zde,zdf,zdg,zdh,zdi,zdj,zdk,reduceCtorEq,zdl,zdm,zdn,goInt,zdo,zdp,zdq,zdr,zds,zdt,zdu,zdv,zdw,zdx,zdy,zdz,zea,zeb,zec,zed,zdk,zee,zef,zeg,zeh,zei,zej,zek,zel,zem,zen,zeo,zep,zeq,zer,zes,zet,zeu,zev,zew,zex,zey,ya,yb,yc,yd,ye,yf,ts_int,ts_int64,ts_bool,ts_ints,ts_post,ts_posts,yg,yh,yi,yj,yk,yl,ym,ts_intsl,ts_int64s,ts_bools,ts_side,ts_sideb,ts_pints,ts_pbool,aPure,aLen]
  rw [aResults_cell (v := .agg #[.int .i64 d, .slice (some ⟨bu, 0, none⟩) l.length (l.length + 16)]) (by simp only [zfd,zaa,zab,zac,zad,zae,zaf,zag,zah,zai,zaj,zak,zal,zam,zan,zao,zap,zaq,zar,zas,zat,zau,zav,zaw,zax,zay,zaz,zba,aUn,zbb,zbc,zbd,zbe,zbf,zbg,zbh,zbi,zbj,zbk,zbl,zbm,zbn,flat,simple,zbo,zbp,zbq,zbr,zbs,zbt,zbu,zbv,zbw,zbx,zby,zbz,zca,zcb,zcc,zcd,zce,zcf,zcg,zch,zci,zcj,zck,zcl,zcm,zcn,zco,zcp,zcq,zcr,Nat.reduceEqDiff,Nat.reduceLT,Nat.reduceAdd,Nat.reduceSub,reduceIte,Kt_P,zcs,zct,zcu,zcv,zcw,zcx,zcy,zcz,zda,zdb,zdc,zdd,zde,zdf,zdg,zdh,zdi,zdj,zdk,reduceCtorEq,zdl,zdm,zdn,goInt,zdo,zdp,zdq,zdr,zds,zdt,zdu,zdv,zdw,zdx,zdy,zdz,zea,zeb,zec,zed,zdk,zee,zef,zeg,zeh,zei,zej,zek,zel,zem,zen,zeo,zep,zeq,zer,zes,zet,zeu,zev,zew,zex,zey,ya,yb,yc,yd,ye,yf,ts_int,ts_int64,ts_bool,ts_ints,ts_post,ts_posts,yg,yh,yi,yj,yk,yl,ym,ts_intsl,ts_int64s,ts_bools,ts_side,ts_sideb,ts_pints,ts_pbool,aPure,aLen]; exact l4)]
  simp only [zfd,zaa,zab,zac,zad,zae,zaf,zag,zah,zai,zaj,zak,zal,zam,zan,zao,zap,zaq,zar,zas,zat,zau,zav,zaw,zax,zay,zaz,zba,aUn,zbb,zbc,zbd,zbe,zbf,zbg,zbh,zbi,zbj,zbk,zbl,zbm,zbn,flat,simple,zbo,zbp,zbq,zbr,zbs,zbt,zbu,zbv,zbw,zbx,zby,zbz,zca,zcb,zcc,zcd,zce,zcf,zcg,zch,zci,zcj,zck,zcl,zcm,zcn,zco,zcp,zcq,zcr,Nat.reduceEqDiff,Nat.reduceLT,Nat.reduceAdd,Nat.reduceSub,reduceIte,Kt_P,zcs,zct,zcu,zcv,zcw,zcx,zcy,zcz,zda,zdb,zdc,zdd,zde,zdf,zdg,zdh,zdi,zdj,zdk,reduceCtorEq,zdl,zdm,zdn,goInt,zdo,zdp,zdq,zdr,zds,zdt,zdu,zdv,zdw,zdx,zdy,zdz,zea,zeb,zec,zed,zdk,zee,zef,zeg,zeh,zei,zej,zek,zel,zem,zen,zeo,zep,zeq,zer,zes,zet,zeu,zev,zew,zex,zey,ya,yb,yc,yd,ye,yf,ts_int,ts_int64,ts_bool,ts_ints,ts_post,ts_posts,yg,yh,yi,yj,yk,yl,ym,ts_intsl,ts_int64s,ts_bools,ts_side,ts_sideb,ts_pints,ts_pbool,aPure,aLen]
  have hub := hu2.2.1
  have hul := hu2.1.1
  refine hq _ A7 ?_ ⟨bu, rfl, hF7.app (hF6.app hu2.1 (by omega)) (by omega), by omega, hu2.2.2⟩
  exact Fr.trans (Fr.trans (Fr.trans (Fr.trans hE1 hE14 fun b hb hc => by omega) hE5 fun _ _ h => h) hF6 fun b hb hc => by omega) hF7 fun b hb hc => by omega

/-- Posts lent: k marks behind. -/
def LPk (W : Nat → Prop) (A : AHeap) (v : Value) (l : List PostL) (vs : List Value) (k : Nat) : Prop :=
  vs.length = l.length ∧ Acc A 44 2 v (l.length + k) (postCells (l ++ List.replicate k (-7, [])) (vs ++ List.replicate k (.slice none 0 0))) ∧ (∀ b, blockOf v b → W b) ∧
    (∀ (i : Nat) (h : i < l.length) (h' : i < vs.length), LInts W A vs[i] l[i].2 ∧ inI64 l[i].1 ∧ ∀ b, blockOf vs[i] b → ¬ blockOf v b) ∧ Dis vs
theorem LPk.fr {W M : Nat → Prop} {A A' : AHeap} {v : Value} {l : List PostL} {vs : List Value} {k : Nat} (h : LPk W A v l vs k) (hF : Fr M A A') (hm : ∀ b, b < A.next → W b → ¬ M b) : LPk W A' v l vs k :=
  ⟨h.1, h.2.1.fr hF fun b hb => hm b (h.2.1.lt b hb) (h.2.2.1 b hb), h.2.2.1, fun i k k' => by
    obtain ⟨h1, h2, h3⟩ := h.2.2.2.1 i k k'
    exact ⟨h1.fr hF fun b hb => hm b (h1.lt b hb).1 (h1.lt b hb).2, h2, h3⟩, h.2.2.2.2⟩
theorem LPk.nil (W : Nat → Prop) (A : AHeap) : LPk W A (.slice none 0 0) [] [] 0 :=
  ⟨rfl, ⟨rfl, .inl ⟨rfl, rfl⟩⟩, fun b h => h.elim, fun i h => by simp at h, Dis.nil⟩

/-- Posts lent, as they are handed out. -/
def LPosts (W : Nat → Prop) (A : AHeap) (v : Value) (l : List PostL) (vs : List Value) : Prop :=
  ∃ b, v = .slice (some ⟨b, 0, none⟩) l.length (l.length + 16) ∧ LPk W A (.slice (some ⟨b, 0, none⟩) (l.length + 16) (l.length + 16)) l vs 16 ∧ l.length ≤ 1000000
theorem postCells_app (l m : List PostL) (vs us : List Value) (h : vs.length = l.length) : postCells (l ++ m) (vs ++ us) = postCells l vs ++ postCells m us := by
  unfold postCells
  rw [List.zip_append h.symm, List.flatMap_append]
theorem LPosts.posts {W : Nat → Prop} {A : AHeap} {v : Value} {l : List PostL} {vs : List Value} (h : LPosts W A v l vs) : Posts A v l := by
  obtain ⟨b, h1, ⟨k1, k2, k3, k4, k5⟩, h3⟩ := h
  refine ⟨vs, k1, ⟨?_, .inr ⟨b, _, h1, by omega, ?_⟩⟩, fun i k k' => ⟨(k4 i k k').1.ints, (k4 i k k').2.1⟩, by omega⟩
  · have : ∀ (l : List PostL) (us : List Value), us.length = l.length → (postCells l us).length = l.length * 2 := by
      intro l
      induction l with
      | nil => intro us _; simp [postCells]
      | cons q l ih =>
        intro us hus
        cases us with
        | nil => simp at hus
        | cons u us =>
          have := ih us (by simpa using hus)
          simp only [postCells,List.zip_cons_cons,List.flatMap_cons,List.length_append,List.length_cons,List.length_nil] at this ⊢
          omega
    exact this l vs k1
  · rw [postCells_app _ _ _ _ k1] at k2
    rcases k2.2 with ⟨h4, h5⟩ | ⟨b', h4, h5⟩
    · omega
    · cases h4
      exact ⟨_, h5.dat⟩
theorem LPosts.fr {W M : Nat → Prop} {A A' : AHeap} {v : Value} {l : List PostL} {vs : List Value} (h : LPosts W A v l vs) (hF : Fr M A A') (hm : ∀ b, b < A.next → W b → ¬ M b) : LPosts W A' v l vs := by
  obtain ⟨b, h1, h2, h3⟩ := h
  exact ⟨b, h1, h2.fr hF hm, h3⟩

theorem lentP_ok (A : AHeap) (v : Value) (l : List PostL) (h : Posts A v l) (hl : l.length ≤ 1000000) (hp : ∀ p ∈ l, p.2.length ≤ 4000000) (Q : Value → AHeap → Prop)
    (hq : ∀ u A' vs, Ext A A' → LPosts (fun b => A.next ≤ b) A' u l vs → Q u A') : Cal Kt 6 #[v] A Q := by
  refine Cal_of (nt := 34) (rs := [.tmp 2]) fn_lentP rfl rfl rfl (Nat.le_of_ble_eq_true rfl) ?_
  obtain ⟨o, c, hv, hlen, _⟩ := h.opened
  subst hv
  simp only [zfd,zaa,zab,zac,zad,zae,zaf,zag,zah,zai,zaj,zak,zal,zam,zan,zao,zap,zaq,zar,zas,zat,zau,zav,zaw,zax,zay,zaz,zba,aUn,zbb,zbc,zbd,zbe,zbf,zbg,zbh,zbi,zbj,zbk,zbl,zbm,zbn,flat,simple,zbo,zbp,zbq,zbr,zbs,zbt,zbu,zbv,zbw,zbx,zby,zbz,zca,zcb,zcc,zcd,zce,zcf,zcg,zch,zci,zcj,zck,zcl,zcm,zcn,zco,zcp,zcq,zcr,Nat.reduceEqDiff,Nat.reduceLT,Nat.reduceAdd,Nat.reduceSub,reduceIte,Kt_P,zcs,zct,zcu,zcv,zcw,zcx,zcy,zcz,zda,zdb,zdc,zdd,zde,zdf,zdg,zdh,zdi,zdj,zdk,reduceCtorEq,zdl,zdm,zdn,goInt,zdo,zdp,zdq,zdr,zds,zdt,zdu,zdv,zdw,zdx,zdy,zdz,zea,zeb,zec,zed,zdk,zee,zef,zeg,zeh,zei,zej,zek,zel,zem,zen,zeo,zep,zeq,zer,zes,zet,zeu,zev,zew,zex,zey,ya,yb,yc,yd,ye,yf,ts_int,ts_int64,ts_bool,ts_ints,ts_post,ts_posts,yg,yh,yi,yj,yk,yl,ym,ts_intsl,ts_int64s,ts_bools,ts_side,ts_sideb,ts_pints,ts_pbool,aPure,aLen]
  refine Lop_inv (fun k e H => ∃ (i : Nat) (lv : Value) (vs : List Value), (e 0 = .slice o l.length c ∧ e 3 = lv ∧ e 4 = .int .i64 i) ∧ k = l.length - i ∧ i ≤ l.length ∧ Ext A H ∧ LPk (fun b => A.next ≤ b) H lv (l.take i) vs 0)
    ?_ l.length _ _ ⟨0, .slice none 0 0, [], by simp [put_at, argEnv], by simp, by simp, Fr.refl _ _, LPk.nil _ _⟩
  rintro k e H ⟨i, lv, vs, ⟨e0, e3, e4⟩, rfl, hi, hE, hP⟩
  have hAH := hE.next
  have hti : (l.take i).length = i := by rw [List.length_take]; omega
  obtain ⟨o2, hlv⟩ := hP.2.1.at
  rw [hti] at hlv
  subst hlv
  simp only [zfd,zaa,zab,zac,zad,zae,zaf,zag,zah,zai,zaj,zak,zal,zam,zan,zao,zap,zaq,zar,zas,zat,zau,zav,zaw,zax,zay,zaz,zba,aUn,zbb,zbc,zbd,zbe,zbf,zbg,zbh,zbi,zbj,zbk,zbl,zbm,zbn,flat,simple,zbo,zbp,zbq,zbr,zbs,zbt,zbu,zbv,zbw,zbx,zby,zbz,zca,zcb,zcc,zcd,zce,zcf,zcg,zch,zci,zcj,zck,zcl,zcm,zcn,zco,zcp,zcq,zcr,Nat.reduceEqDiff,Nat.reduceLT,Nat.reduceAdd,Nat.reduceSub,reduceIte,Kt_P,zcs,zct,zcu,zcv,zcw,zcx,zcy,zcz,zda,zdb,zdc,zdd,zde,zdf,zdg,zdh,zdi,zdj,zdk,reduceCtorEq,zdl,zdm,zdn,goInt,zdo,zdp,zdq,zdr,zds,zdt,zdu,zdv,zdw,zdx,zdy,zdz,zea,zeb,zec,zed,zdk,zee,zef,zeg,zeh,zei,zej,zek,zel,zem,zen,zeo,zep,zeq,zer,zes,zet,zeu,zev,zew,zex,zey,ya,yb,yc,yd,ye,yf,ts_int,ts_int64,ts_bool,ts_ints,ts_post,ts_posts,yg,yh,yi,yj,yk,yl,ym,ts_intsl,ts_int64s,ts_bools,ts_side,ts_sideb,ts_pints,ts_pbool,aPure,aLen,e0,e3,e4]
  refine Way_of (fun hlt => ?_) (fun hge => ?_)
  · obtain ⟨o', c', ho', _, hdat⟩ := (h.fr hE).opened
    cases ho'
    obtain ⟨b, u, hob, lp, ld, lu, hu, hdI⟩ := hdat i hlt
    subst hob
    have hws := wrap_succ hlt hlen
    simp only [zfd,zaa,zab,zac,zad,zae,zaf,zag,zah,zai,zaj,zak,zal,zam,zan,zao,zap,zaq,zar,zas,zat,zau,zav,zaw,zax,zay,zaz,zba,aUn,zbb,zbc,zbd,zbe,zbf,zbg,zbh,zbi,zbj,zbk,zbl,zbm,zbn,flat,simple,zbo,zbp,zbq,zbr,zbs,zbt,zbu,zbv,zbw,zbx,zby,zbz,zca,zcb,zcc,zcd,zce,zcf,zcg,zch,zci,zcj,zck,zcl,zcm,zcn,zco,zcp,zcq,zcr,Nat.reduceEqDiff,Nat.reduceLT,Nat.reduceAdd,Nat.reduceSub,reduceIte,Kt_P,zcs,zct,zcu,zcv,zcw,zcx,zcy,zcz,zda,zdb,zdc,zdd,zde,zdf,zdg,zdh,zdi,zdj,zdk,reduceCtorEq,zdl,zdm,zdn,goInt,zdo,zdp,zdq,zdr,zds,zdt,zdu,zdv,zdw,zdx,zdy,zdz,zea,zeb,zec,zed,zdk,zee,zef,zeg,zeh,zei,zej,zek,zel,zem,zen,zeo,zep,zeq,zer,zes,zet,zeu,zev,zew,zex,zey,ya,yb,yc,yd,ye,yf,ts_int,ts_int64,ts_bool,ts_ints,ts_post,ts_posts,yg,yh,yi,yj,yk,yl,ym,ts_intsl,ts_int64s,ts_bools,ts_side,ts_sideb,ts_pints,ts_pbool,aPure,aLen,e0,e3,e4,hlt,lp]
    rw [CalF_cal (Kt_prim (by decide) _ _)]
    refine lentP1_ok H l[i].1 u l[i].2 hu (hp _ (List.getElem_mem hlt)) _ fun w H1 hE1 hw => ?_
    obtain ⟨bw, hw1, hw2, hw3⟩ := hw
    subst hw1
    simp only [zfd,zaa,zab,zac,zad,zae,zaf,zag,zah,zai,zaj,zak,zal,zam,zan,zao,zap,zaq,zar,zas,zat,zau,zav,zaw,zax,zay,zaz,zba,aUn,zbb,zbc,zbd,zbe,zbf,zbg,zbh,zbi,zbj,zbk,zbl,zbm,zbn,flat,simple,zbo,zbp,zbq,zbr,zbs,zbt,zbu,zbv,zbw,zbx,zby,zbz,zca,zcb,zcc,zcd,zce,zcf,zcg,zch,zci,zcj,zck,zcl,zcm,zcn,zco,zcp,zcq,zcr,Nat.reduceEqDiff,Nat.reduceLT,Nat.reduceAdd,Nat.reduceSub,reduceIte,Kt_P,zcs,zct,zcu,zcv,zcw,zcx,zcy,zcz,zda,zdb,zdc,zdd,zde,zdf,zdg,zdh,zdi,zdj,zdk,reduceCtorEq,zdl,zdm,zdn,goInt,zdo,zdp,zdq,zdr,zds,zdt,zdu,zdv,zdw,zdx,zdy,zdz,zea,zeb,zec,zed,zdk,zee,zef,zeg,zeh,zei,zej,zek,zel,zem,zen,zeo,zep,zeq,zer,zes,zet,zeu,zev,zew,zex,zey,ya,yb,yc,yd,ye,yf,ts_int,ts_int64,ts_bool,ts_ints,ts_post,ts_posts,yg,yh,yi,yj,yk,yl,ym,ts_intsl,ts_int64s,ts_bools,ts_side,ts_sideb,ts_pints,ts_pbool,aPure,aLen]
    refine OpW_alloc_of ts_post tz_post rfl fun b5 H2 hb5 hn5 hE2 hB5 => ?_
    simp only [zfd,zaa,zab,zac,zad,zae,zaf,zag,zah,zai,zaj,zak,zal,zam,zan,zao,zap,zaq,zar,zas,zat,zau,zav,zaw,zax,zay,zaz,zba,aUn,zbb,zbc,zbd,zbe,zbf,zbg,zbh,zbi,zbj,zbk,zbl,zbm,zbn,flat,simple,zbo,zbp,zbq,zbr,zbs,zbt,zbu,zbv,zbw,zbx,zby,zbz,zca,zcb,zcc,zcd,zce,zcf,zcg,zch,zci,zcj,zck,zcl,zcm,zcn,zco,zcp,zcq,zcr,Nat.reduceEqDiff,Nat.reduceLT,Nat.reduceAdd,Nat.reduceSub,reduceIte,Kt_P,zcs,zct,zcu,zcv,zcw,zcx,zcy,zcz,zda,zdb,zdc,zdd,zde,zdf,zdg,zdh,zdi,zdj,zdk,reduceCtorEq,zdl,zdm,zdn,goInt,zdo,zdp,zdq,zdr,zds,zdt,zdu,zdv,zdw,zdx,zdy,zdz,zea,zeb,zec,zed,zdk,zee,zef,zeg,zeh,zei,zej,zek,zel,zem,zen,zeo,zep,zeq,zer,zes,zet,zeu,zev,zew,zex,zey,ya,yb,yc,yd,ye,yf,ts_int,ts_int64,ts_bool,ts_ints,ts_post,ts_posts,yg,yh,yi,yj,yk,yl,ym,ts_intsl,ts_int64s,ts_bools,ts_side,ts_sideb,ts_pints,ts_pbool,aPure,aLen]
    refine OpW_store_of (o := 0) hB5 ⟨rfl, rfl⟩ (by simp only [zfd,zaa,zab,zac,zad,zae,zaf,zag,zah,zai,zaj,zak,zal,zam,zan,zao,zap,zaq,zar,zas,zat,zau,zav,zaw,zax,zay,zaz,zba,aUn,zbb,zbc,zbd,zbe,zbf,zbg,zbh,zbi,zbj,zbk,zbl,zbm,zbn,flat,simple,zbo,zbp,zbq,zbr,zbs,zbt,zbu,zbv,zbw,zbx,zby,zbz,zca,zcb,zcc,zcd,zce,zcf,zcg,zch,zci,zcj,zck,zcl,zcm,zcn,zco,zcp,zcq,zcr,Nat.reduceEqDiff,Nat.reduceLT,Nat.reduceAdd,Nat.reduceSub,reduceIte,Kt_P,zcs,zct,zcu,zcv,zcw,zcx,zcy,zcz,zda,zdb,zdc,zdd,zde,zdf,zdg,zdh,zdi,zdj,zdk,reduceCtorEq,zdl,zdm,zdn,goInt,zdo,zdp,zdq,zdr,zds,zdt,zdu,zdv,zdw,zdx,zdy,zdz,zea,zeb,zec,zed,zdk,zee,zef,zeg,zeh,zei,zej,zek,zel,zem,zen,zeo,zep,zeq,zer,zes,zet,zeu,zev,zew,zex,zey,ya,yb,yc,yd,ye,yf,ts_int,ts_int64,ts_bool,ts_ints,ts_post,ts_posts,yg,yh,yi,yj,yk,yl,ym,ts_intsl,ts_int64s,ts_bools,ts_side,ts_sideb,ts_pints,ts_pbool,aPure,aLen]) ts_post (Nat.le_refl _) rfl fun H3 hn6 hF3 hB6 => ?_
    replace hB6 : Box H3 b5 44 [.int .i64 l[i].1, .slice (some ⟨bw, 0, none⟩) l[i].2.length (l[i].2.length + 16)] := hB6
    have l5 : aLoadVar Tryd.prog H3 44 (.pointer (some ⟨b5, 0, none⟩)) = some (.agg #[.int .i64 l[i].1, .slice (some ⟨bw, 0, none⟩) l[i].2.length (l[i].2.length + 16)]) := hB6.loadAgg (o := 0) Tryd.underlying44 rfl ts_post (Nat.le_refl _)
    have hHF : Fr (fun j => j = b5) H H3 := Fr.trans (hE1.trans hE2).fr hF3 fun _ _ h => h
    have n1 := hE1.next
    have hP3 := hP.fr hHF fun b hb _ hc => by omega
    simp only [zfd,zaa,zab,zac,zad,zae,zaf,zag,zah,zai,zaj,zak,zal,zam,zan,zao,zap,zaq,zar,zas,zat,zau,zav,zaw,zax,zay,zaz,zba,aUn,zbb,zbc,zbd,zbe,zbf,zbg,zbh,zbi,zbj,zbk,zbl,zbm,zbn,flat,simple,zbo,zbp,zbq,zbr,zbs,zbt,zbu,zbv,zbw,zbx,zby,zbz,zca,zcb,zcc,zcd,zce,zcf,zcg,zch,zci,zcj,zck,zcl,zcm,zcn,zco,zcp,zcq,zcr,Nat.reduceEqDiff,Nat.reduceLT,Nat.reduceAdd,Nat.reduceSub,reduceIte,Kt_P,zcs,zct,zcu,zcv,zcw,zcx,zcy,zcz,zda,zdb,zdc,zdd,zde,zdf,zdg,zdh,zdi,zdj,zdk,reduceCtorEq,zdl,zdm,zdn,goInt,zdo,zdp,zdq,zdr,zds,zdt,zdu,zdv,zdw,zdx,zdy,zdz,zea,zeb,zec,zed,zdk,zee,zef,zeg,zeh,zei,zej,zek,zel,zem,zen,zeo,zep,zeq,zer,zes,zet,zeu,zev,zew,zex,zey,ya,yb,yc,yd,ye,yf,ts_int,ts_int64,ts_bool,ts_ints,ts_post,ts_posts,yg,yh,yi,yj,yk,yl,ym,ts_intsl,ts_int64s,ts_bools,ts_side,ts_sideb,ts_pints,ts_pbool,aPure,aLen,e3,l5]
    obtain ⟨p1, p2, p3, p4, p5⟩ := hP3
    refine OpW_buildSlice_of (cs := [.int .i64 l[i].1, .slice (some ⟨bw, 0, none⟩) l[i].2.length (l[i].2.length + 16)]) Tryd.underlying22 ts_post tz_post (by decide) rfl rfl rfl fun q1 G1 hq1 hm3 hF5 hQ1 => ?_
    simp only [zfd,zaa,zab,zac,zad,zae,zaf,zag,zah,zai,zaj,zak,zal,zam,zan,zao,zap,zaq,zar,zas,zat,zau,zav,zaw,zax,zay,zaz,zba,aUn,zbb,zbc,zbd,zbe,zbf,zbg,zbh,zbi,zbj,zbk,zbl,zbm,zbn,flat,simple,zbo,zbp,zbq,zbr,zbs,zbt,zbu,zbv,zbw,zbx,zby,zbz,zca,zcb,zcc,zcd,zce,zcf,zcg,zch,zci,zcj,zck,zcl,zcm,zcn,zco,zcp,zcq,zcr,Nat.reduceEqDiff,Nat.reduceLT,Nat.reduceAdd,Nat.reduceSub,reduceIte,Kt_P,zcs,zct,zcu,zcv,zcw,zcx,zcy,zcz,zda,zdb,zdc,zdd,zde,zdf,zdg,zdh,zdi,zdj,zdk,reduceCtorEq,zdl,zdm,zdn,goInt,zdo,zdp,zdq,zdr,zds,zdt,zdu,zdv,zdw,zdx,zdy,zdz,zea,zeb,zec,zed,zdk,zee,zef,zeg,zeh,zei,zej,zek,zel,zem,zen,zeo,zep,zeq,zer,zes,zet,zeu,zev,zew,zex,zey,ya,yb,yc,yd,ye,yf,ts_int,ts_int64,ts_bool,ts_ints,ts_post,ts_posts,yg,yh,yi,yj,yk,yl,ym,ts_intsl,ts_int64s,ts_bools,ts_side,ts_sideb,ts_pints,ts_pbool,aPure,aLen]
    have p2' : Acc H3 44 2 (.slice o2 i i) i (postCells (l.take i) vs) := by simpa [hti] using p2
    refine OpW_append_of (n := i) (k := 1) ⟨rfl, rfl⟩ Tryd.underlying22 (by rw [Kt_P, Tryd.underlying22]; rfl) ts_post tb_post tz_post (by simp only [zfd,zaa,zab,zac,zad,zae,zaf,zag,zah,zai,zaj,zak,zal,zam,zan,zao,zap,zaq,zar,zas,zat,zau,zav,zaw,zax,zay,zaz,zba,aUn,zbb,zbc,zbd,zbe,zbf,zbg,zbh,zbi,zbj,zbk,zbl,zbm,zbn,flat,simple,zbo,zbp,zbq,zbr,zbs,zbt,zbu,zbv,zbw,zbx,zby,zbz,zca,zcb,zcc,zcd,zce,zcf,zcg,zch,zci,zcj,zck,zcl,zcm,zcn,zco,zcp,zcq,zcr,Nat.reduceEqDiff,Nat.reduceLT,Nat.reduceAdd,Nat.reduceSub,reduceIte,Kt_P,zcs,zct,zcu,zcv,zcw,zcx,zcy,zcz,zda,zdb,zdc,zdd,zde,zdf,zdg,zdh,zdi,zdj,zdk,reduceCtorEq,zdl,zdm,zdn,goInt,zdo,zdp,zdq,zdr,zds,zdt,zdu,zdv,zdw,zdx,zdy,zdz,zea,zeb,zec,zed,zdk,zee,zef,zeg,zeh,zei,zej,zek,zel,zem,zen,zeo,zep,zeq,zer,zes,zet,zeu,zev,zew,zex,zey,ya,yb,yc,yd,ye,yf,ts_int,ts_int64,ts_bool,ts_ints,ts_post,ts_posts,yg,yh,yi,yj,yk,yl,ym,ts_intsl,ts_int64s,ts_bools,ts_side,ts_sideb,ts_pints,ts_pbool,aPure,aLen]; exact aSrc_box hQ1 rfl) ⟨rfl, rfl⟩ (by omega)
      ⟨by omega, rfl, by omega, by omega⟩ (p2'.fr hF5 fun _ _ h => h) fun q2 G2 hq2 hm4 hF4 hA4 => ?_
    simp only [zfd,zaa,zab,zac,zad,zae,zaf,zag,zah,zai,zaj,zak,zal,zam,zan,zao,zap,zaq,zar,zas,zat,zau,zav,zaw,zax,zay,zaz,zba,aUn,zbb,zbc,zbd,zbe,zbf,zbg,zbh,zbi,zbj,zbk,zbl,zbm,zbn,flat,simple,zbo,zbp,zbq,zbr,zbs,zbt,zbu,zbv,zbw,zbx,zby,zbz,zca,zcb,zcc,zcd,zce,zcf,zcg,zch,zci,zcj,zck,zcl,zcm,zcn,zco,zcp,zcq,zcr,Nat.reduceEqDiff,Nat.reduceLT,Nat.reduceAdd,Nat.reduceSub,reduceIte,Kt_P,zcs,zct,zcu,zcv,zcw,zcx,zcy,zcz,zda,zdb,zdc,zdd,zde,zdf,zdg,zdh,zdi,zdj,zdk,reduceCtorEq,zdl,zdm,zdn,goInt,zdo,zdp,zdq,zdr,zds,zdt,zdu,zdv,zdw,zdx,zdy,zdz,zea,zeb,zec,zed,zdk,zee,zef,zeg,zeh,zei,zej,zek,zel,zem,zen,zeo,zep,zeq,zer,zes,zet,zeu,zev,zew,zex,zey,ya,yb,yc,yd,ye,yf,ts_int,ts_int64,ts_bool,ts_ints,ts_post,ts_posts,yg,yh,yi,yj,yk,yl,ym,ts_intsl,ts_int64s,ts_bools,ts_side,ts_sideb,ts_pints,ts_pbool,aPure,aLen,e4,hws] at hF4 hA4 ⊢
    have ks : l.take (i + 1) = l.take i ++ [l[i]] := List.take_succ_eq_append_getElem hlt
    have hn1 := hE2.next
    have hlt2 : ∀ b, blockOf (.slice o2 i i) b → b < H.next := by have := hP.2.1.lt; simpa [hti] using this
    have hbw := hw2.1
    refine ⟨l.length - (i + 1), by omega, i + 1, .slice (some ⟨q2, 0, none⟩) (i + 1) (i + 1), vs ++ [.slice (some ⟨bw, 0, none⟩) l[i].2.length (l[i].2.length + 16)], by simp [put_at, e0], rfl, by omega,
      Fr.trans (Fr.trans (Fr.trans hE hHF fun b hb hc => by omega) hF5 fun _ _ h => h) hF4 fun b hb hc => by have := p3 b hc; omega, ?_⟩
    rw [ks]
    generalize hLd : l.take i = L' at *
    subst hti
    refine ⟨by simp [p1], ?_, fun b hb => ?_, fun j h h' => ?_, p5.snoc fun j hj b hb hc => ?_⟩
    · simp only [List.replicate_zero,List.append_nil,Nat.add_zero]
      rw [postCells_snoc _ _ p1, List.length_append]
      exact hA4
    · simp only [blockOf] at hb; omega
    · by_cases hj : j < L'.length
      · have hj2 : j < vs.length := by omega
        rw [List.getElem_append_left hj2, List.getElem_append_left hj]
        obtain ⟨g1, g2, g3⟩ := p4 j hj hj2
        have g6 := g1.lt
        refine ⟨(g1.fr hF5 fun _ _ h => h).fr hF4 fun b hb hc => g3 b hb hc, g2, fun b hb hc => ?_⟩
        simp only [blockOf] at hc
        have := (g6 b hb).1
        omega
      · have hj2 : j = vs.length := by simp at h; omega
        subst hj2
        rw [List.getElem_append_right (by omega), List.getElem_append_right (by omega)]
        simp only [p1,Nat.sub_self,List.getElem_singleton]
        refine ⟨⟨bw, rfl, hF4.app (hF5.app (hF3.app (hE2.app hw2 fun h => h) (by omega)) fun h => h) fun hc => by have := hlt2 bw hc; omega, by omega, hw3.2⟩, hdI, fun b hb hc => ?_⟩
        simp only [blockOf] at hb hc
        omega
    · have := (p4 j (by omega) hj).1.lt b hb
      have g0 := (hP.2.2.2.1 j (by omega) hj).1.lt b hb
      simp only [blockOf] at hc
      omega
  · have : i = l.length := by omega
    subst this
    rw [List.take_length] at hP
    simp only [zfd,zaa,zab,zac,zad,zae,zaf,zag,zah,zai,zaj,zak,zal,zam,zan,zao,zap,zaq,zar,zas,zat,zau,zav,zaw,zax,zay,zaz,zba,aUn,zbb,zbc,zbd,zbe,zbf,zbg,zbh,zbi,zbj,zbk,zbl,zbm,zbn,flat,simple,zbo,zbp,zbq,zbr,zbs,zbt,zbu,zbv,zbw,zbx,zby,zbz,zca,zcb,zcc,zcd,zce,zcf,zcg,zch,zci,zcj,zck,zcl,zcm,zcn,zco,zcp,zcq,zcr,Nat.reduceEqDiff,Nat.reduceLT,Nat.reduceAdd,Nat.reduceSub,reduceIte,Kt_P,zcs,zct,zcu,zcv,zcw,zcx,zcy,zcz,zda,zdb,zdc,zdd,zde,zdf,zdg,zdh,zdi,zdj,zdk,reduceCtorEq,zdl,zdm,zdn,goInt,zdo,zdp,zdq,zdr,zds,zdt,zdu,zdv,zdw,zdx,zdy,zdz,zea,zeb,zec,zed,zdk,zee,zef,zeg,zeh,zei,zej,zek,zel,zem,zen,zeo,zep,zeq,zer,zes,zet,zeu,zev,zew,zex,zey,ya,yb,yc,yd,ye,yf,ts_int,ts_int64,ts_bool,ts_ints,ts_post,ts_posts,yg,yh,yi,yj,yk,yl,ym,ts_intsl,ts_int64s,ts_bools,ts_side,ts_sideb,ts_pints,ts_pbool,aPure,aLen]
    refine Lop_inv (fun k e H => ∃ (j : Nat) (lv : Value), (e 0 = .slice o l.length c ∧ e 3 = lv ∧ e 6 = .int .i64 j) ∧ k = 16 - j ∧ j ≤ 16 ∧ Ext A H ∧ LPk (fun b => A.next ≤ b) H lv l vs j)
      ?_ 16 _ _ ⟨0, _, by simp [put_at, e0, e3], by simp, by simp, hE, hP⟩
    clear hP hE hAH e0 e3 e4
    rintro k e H ⟨j, lv, ⟨e0, e3, e6⟩, rfl, hj, hE, hP⟩
    have hAH := hE.next
    obtain ⟨o2, hlv⟩ := hP.2.1.at
    subst hlv
    simp only [zfd,zaa,zab,zac,zad,zae,zaf,zag,zah,zai,zaj,zak,zal,zam,zan,zao,zap,zaq,zar,zas,zat,zau,zav,zaw,zax,zay,zaz,zba,aUn,zbb,zbc,zbd,zbe,zbf,zbg,zbh,zbi,zbj,zbk,zbl,zbm,zbn,flat,simple,zbo,zbp,zbq,zbr,zbs,zbt,zbu,zbv,zbw,zbx,zby,zbz,zca,zcb,zcc,zcd,zce,zcf,zcg,zch,zci,zcj,zck,zcl,zcm,zcn,zco,zcp,zcq,zcr,Nat.reduceEqDiff,Nat.reduceLT,Nat.reduceAdd,Nat.reduceSub,reduceIte,Kt_P,zcs,zct,zcu,zcv,zcw,zcx,zcy,zcz,zda,zdb,zdc,zdd,zde,zdf,zdg,zdh,zdi,zdj,zdk,reduceCtorEq,zdl,zdm,zdn,goInt,zdo,zdp,zdq,zdr,zds,zdt,zdu,zdv,zdw,zdx,zdy,zdz,zea,zeb,zec,zed,zdk,zee,zef,zeg,zeh,zei,zej,zek,zel,zem,zen,zeo,zep,zeq,zer,zes,zet,zeu,zev,zew,zex,zey,ya,yb,yc,yd,ye,yf,ts_int,ts_int64,ts_bool,ts_ints,ts_post,ts_posts,yg,yh,yi,yj,yk,yl,ym,ts_intsl,ts_int64s,ts_bools,ts_side,ts_sideb,ts_pints,ts_pbool,aPure,aLen,e3,e6]
    refine Way_of (fun hlt => ?_) (fun hge => ?_)
    · have hws : IntKind.i64.wrap ((j : Int) + 1) = ((j + 1 : Nat) : Int) := by rw [wrap_i64 (by omega)]; omega
      have hbp : aBuild Tryd.prog 44 [(0, .int .i64 (-7))] = some (.agg #[.int .i64 (-7), .slice none 0 0]) := by kernel_rfl
      simp only [zfd,zaa,zab,zac,zad,zae,zaf,zag,zah,zai,zaj,zak,zal,zam,zan,zao,zap,zaq,zar,zas,zat,zau,zav,zaw,zax,zay,zaz,zba,aUn,zbb,zbc,zbd,zbe,zbf,zbg,zbh,zbi,zbj,zbk,zbl,zbm,zbn,flat,simple,zbo,zbp,zbq,zbr,zbs,zbt,zbu,zbv,zbw,zbx,zby,zbz,zca,zcb,zcc,zcd,zce,zcf,zcg,zch,zci,zcj,zck,zcl,zcm,zcn,zco,zcp,zcq,zcr,Nat.reduceEqDiff,Nat.reduceLT,Nat.reduceAdd,Nat.reduceSub,reduceIte,Kt_P,zcs,zct,zcu,zcv,zcw,zcx,zcy,zcz,zda,zdb,zdc,zdd,zde,zdf,zdg,zdh,zdi,zdj,zdk,reduceCtorEq,zdl,zdm,zdn,goInt,zdo,zdp,zdq,zdr,zds,zdt,zdu,zdv,zdw,zdx,zdy,zdz,zea,zeb,zec,zed,zdk,zee,zef,zeg,zeh,zei,zej,zek,zel,zem,zen,zeo,zep,zeq,zer,zes,zet,zeu,zev,zew,zex,zey,ya,yb,yc,yd,ye,yf,ts_int,ts_int64,ts_bool,ts_ints,ts_post,ts_posts,yg,yh,yi,yj,yk,yl,ym,ts_intsl,ts_int64s,ts_bools,ts_side,ts_sideb,ts_pints,ts_pbool,aPure,aLen,e3,e6,hbp]
      refine OpW_buildSlice_of (cs := [.int .i64 (-7), .slice none 0 0]) Tryd.underlying22 ts_post tz_post (by decide) rfl rfl rfl fun q1 G1 hq1 hm3 hF3 hQ1 => ?_
      simp only [zfd,zaa,zab,zac,zad,zae,zaf,zag,zah,zai,zaj,zak,zal,zam,zan,zao,zap,zaq,zar,zas,zat,zau,zav,zaw,zax,zay,zaz,zba,aUn,zbb,zbc,zbd,zbe,zbf,zbg,zbh,zbi,zbj,zbk,zbl,zbm,zbn,flat,simple,zbo,zbp,zbq,zbr,zbs,zbt,zbu,zbv,zbw,zbx,zby,zbz,zca,zcb,zcc,zcd,zce,zcf,zcg,zch,zci,zcj,zck,zcl,zcm,zcn,zco,zcp,zcq,zcr,Nat.reduceEqDiff,Nat.reduceLT,Nat.reduceAdd,Nat.reduceSub,reduceIte,Kt_P,zcs,zct,zcu,zcv,zcw,zcx,zcy,zcz,zda,zdb,zdc,zdd,zde,zdf,zdg,zdh,zdi,zdj,zdk,reduceCtorEq,zdl,zdm,zdn,goInt,zdo,zdp,zdq,zdr,zds,zdt,zdu,zdv,zdw,zdx,zdy,zdz,zea,zeb,zec,zed,zdk,zee,zef,zeg,zeh,zei,zej,zek,zel,zem,zen,zeo,zep,zeq,zer,zes,zet,zeu,zev,zew,zex,zey,ya,yb,yc,yd,ye,yf,ts_int,ts_int64,ts_bool,ts_ints,ts_post,ts_posts,yg,yh,yi,yj,yk,yl,ym,ts_intsl,ts_int64s,ts_bools,ts_side,ts_sideb,ts_pints,ts_pbool,aPure,aLen]
      refine OpW_append_of (n := l.length + j) (k := 1) ⟨rfl, rfl⟩ Tryd.underlying22 (by rw [Kt_P, Tryd.underlying22]; rfl) ts_post tb_post tz_post (by simp only [zfd,zaa,zab,zac,zad,zae,zaf,zag,zah,zai,zaj,zak,zal,zam,zan,zao,zap,zaq,zar,zas,zat,zau,zav,zaw,zax,zay,zaz,zba,aUn,zbb,zbc,zbd,zbe,zbf,zbg,zbh,zbi,zbj,zbk,zbl,zbm,zbn,flat,simple,zbo,zbp,zbq,zbr,zbs,zbt,zbu,zbv,zbw,zbx,zby,zbz,zca,zcb,zcc,zcd,zce,zcf,zcg,zch,zci,zcj,zck,zcl,zcm,zcn,zco,zcp,zcq,zcr,Nat.reduceEqDiff,Nat.reduceLT,Nat.reduceAdd,Nat.reduceSub,reduceIte,Kt_P,zcs,zct,zcu,zcv,zcw,zcx,zcy,zcz,zda,zdb,zdc,zdd,zde,zdf,zdg,zdh,zdi,zdj,zdk,reduceCtorEq,zdl,zdm,zdn,goInt,zdo,zdp,zdq,zdr,zds,zdt,zdu,zdv,zdw,zdx,zdy,zdz,zea,zeb,zec,zed,zdk,zee,zef,zeg,zeh,zei,zej,zek,zel,zem,zen,zeo,zep,zeq,zer,zes,zet,zeu,zev,zew,zex,zey,ya,yb,yc,yd,ye,yf,ts_int,ts_int64,ts_bool,ts_ints,ts_post,ts_posts,yg,yh,yi,yj,yk,yl,ym,ts_intsl,ts_int64s,ts_bools,ts_side,ts_sideb,ts_pints,ts_pbool,aPure,aLen]; exact aSrc_box hQ1 rfl) ⟨rfl, rfl⟩ (by omega)
        ⟨by omega, rfl, by omega, by omega⟩ (hP.2.1.fr hF3 fun _ _ h => h) fun q2 G2 hq2 hm4 hF4 hA4 => ?_
      simp only [zfd,zaa,zab,zac,zad,zae,zaf,zag,zah,zai,zaj,zak,zal,zam,zan,zao,zap,zaq,zar,zas,zat,zau,zav,zaw,zax,zay,zaz,zba,aUn,zbb,zbc,zbd,zbe,zbf,zbg,zbh,zbi,zbj,zbk,zbl,zbm,zbn,flat,simple,zbo,zbp,zbq,zbr,zbs,zbt,zbu,zbv,zbw,zbx,zby,zbz,zca,zcb,zcc,zcd,zce,zcf,zcg,zch,zci,zcj,zck,zcl,zcm,zcn,zco,zcp,zcq,zcr,Nat.reduceEqDiff,Nat.reduceLT,Nat.reduceAdd,Nat.reduceSub,reduceIte,Kt_P,zcs,zct,zcu,zcv,zcw,zcx,zcy,zcz,zda,zdb,zdc,zdd,zde,zdf,zdg,zdh,zdi,zdj,zdk,reduceCtorEq,zdl,zdm,zdn,goInt,zdo,zdp,zdq,zdr,zds,zdt,zdu,zdv,zdw,zdx,zdy,zdz,zea,zeb,zec,zed,zdk,zee,zef,zeg,zeh,zei,zej,zek,zel,zem,zen,zeo,zep,zeq,zer,zes,zet,zeu,zev,zew,zex,zey,ya,yb,yc,yd,ye,yf,ts_int,ts_int64,ts_bool,ts_ints,ts_post,ts_posts,yg,yh,yi,yj,yk,yl,ym,ts_intsl,ts_int64s,ts_bools,ts_side,ts_sideb,ts_pints,ts_pbool,aPure,aLen,e6,hws] at hF4 hA4 ⊢
      obtain ⟨p1, p2, p3, p4, p5⟩ := hP
      refine ⟨16 - (j + 1), by omega, j + 1, .slice (some ⟨q2, 0, none⟩) (l.length + j + 1) (l.length + j + 1), by simp [put_at, e0], rfl, by omega, (Fr.trans hE hF3 fun _ _ h => h).trans hF4 fun b hb hc => by have := p3 b hc; omega,
        p1, ?_, fun b hb => ?_, fun i k k' => ?_, p5⟩
      · have e1 : l ++ List.replicate (j + 1) (-7, []) = (l ++ List.replicate j (-7, [])) ++ [(-7, [])] := by rw [List.replicate_succ', List.append_assoc]
        have e2 : vs ++ List.replicate (j + 1) (.slice none 0 0) = (vs ++ List.replicate j (.slice none 0 0)) ++ [.slice none 0 0] := by rw [List.replicate_succ', List.append_assoc]
        rw [e1, e2, postCells_snoc _ _ (by simp [p1]), ← Nat.add_assoc]
        exact hA4
      · simp only [blockOf] at hb
        omega
      · obtain ⟨g1, g2, g3⟩ := p4 i k k'
        refine ⟨(g1.fr hF3 fun _ _ h => h).fr hF4 g3, g2, fun b hb hc => ?_⟩
        simp only [blockOf] at hc
        have := (g1.lt b hb).1
        omega
    · have : j = 16 := by omega
      subst this
      rcases hP.2.1.2 with ⟨_, h0⟩ | ⟨b, hb, hB⟩
      · omega
      · simp only [Value.slice.injEq,and_true] at hb
        obtain ⟨rfl⟩ := hb
        obtain ⟨r, hr, _⟩ := hB.arow'
        simp only [zfd,zaa,zab,zac,zad,zae,zaf,zag,zah,zai,zaj,zak,zal,zam,zan,zao,zap,zaq,zar,zas,zat,zau,zav,zaw,zax,zay,zaz,zba,aUn,zbb,zbc,zbd,zbe,zbf,zbg,zbh,zbi,zbj,zbk,zbl,zbm,zbn,flat,simple,zbo,zbp,zbq,zbr,zbs,zbt,zbu,zbv,zbw,zbx,zby,zbz,zca,zcb,zcc,zcd,zce,zcf,zcg,zch,zci,zcj,zck,zcl,zcm,zcn,zco,zcp,zcq,zcr,Nat.reduceEqDiff,Nat.reduceLT,Nat.reduceAdd,Nat.reduceSub,reduceIte,Kt_P,zcs,zct,zcu,zcv,zcw,zcx,zcy,zcz,zda,zdb,zdc,zdd,zde,zdf,zdg,zdh,zdi,zdj,zdk,reduceCtorEq,zdl,zdm,zdn,goInt,zdo,zdp,zdq,zdr,zds,zdt,zdu,zdv,zdw,zdx,zdy,zdz,zea,zeb,zec,zed,zdk,zee,zef,zeg,zeh,zei,zej,zek,zel,zem,zen,zeo,zep,zeq,zer,zes,zet,zeu,zev,zew,zex,zey,ya,yb,yc,yd,ye,yf,ts_int,ts_int64,ts_bool,ts_ints,ts_post,ts_posts,yg,yh,yi,yj,yk,yl,ym,ts_intsl,ts_int64s,ts_bools,ts_side,ts_sideb,ts_pints,ts_pbool,aPure,aLen,e0,e3]
        refine OpW_sliceTo (n := l.length + 16) (c := l.length + 16) (k := .i64) (h := l.length) Tryd.underlying22 ts_post ⟨rfl, rfl⟩ (by simp only [zfd,zaa,zab,zac,zad,zae,zaf,zag,zah,zai,zaj,zak,zal,zam,zan,zao,zap,zaq,zar,zas,zat,zau,zav,zaw,zax,zay,zaz,zba,aUn,zbb,zbc,zbd,zbe,zbf,zbg,zbh,zbi,zbj,zbk,zbl,zbm,zbn,flat,simple,zbo,zbp,zbq,zbr,zbs,zbt,zbu,zbv,zbw,zbx,zby,zbz,zca,zcb,zcc,zcd,zce,zcf,zcg,zch,zci,zcj,zck,zcl,zcm,zcn,zco,zcp,zcq,zcr,Nat.reduceEqDiff,Nat.reduceLT,Nat.reduceAdd,Nat.reduceSub,reduceIte,Kt_P,zcs,zct,zcu,zcv,zcw,zcx,zcy,zcz,zda,zdb,zdc,zdd,zde,zdf,zdg,zdh,zdi,zdj,zdk,reduceCtorEq,zdl,zdm,zdn,goInt,zdo,zdp,zdq,zdr,zds,zdt,zdu,zdv,zdw,zdx,zdy,zdz,zea,zeb,zec,zed,zdk,zee,zef,zeg,zeh,zei,zej,zek,zel,zem,zen,zeo,zep,zeq,zer,zes,zet,zeu,zev,zew,zex,zey,ya,yb,yc,yd,ye,yf,ts_int,ts_int64,ts_bool,ts_ints,ts_post,ts_posts,yg,yh,yi,yj,yk,yl,ym,ts_intsl,ts_int64s,ts_bools,ts_side,ts_sideb,ts_pints,ts_pbool,aPure,aLen,e3]) (by simp only [zfd,zaa,zab,zac,zad,zae,zaf,zag,zah,zai,zaj,zak,zal,zam,zan,zao,zap,zaq,zar,zas,zat,zau,zav,zaw,zax,zay,zaz,zba,aUn,zbb,zbc,zbd,zbe,zbf,zbg,zbh,zbi,zbj,zbk,zbl,zbm,zbn,flat,simple,zbo,zbp,zbq,zbr,zbs,zbt,zbu,zbv,zbw,zbx,zby,zbz,zca,zcb,zcc,zcd,zce,zcf,zcg,zch,zci,zcj,zck,zcl,zcm,zcn,zco,zcp,zcq,zcr,Nat.reduceEqDiff,Nat.reduceLT,Nat.reduceAdd,Nat.reduceSub,reduceIte,Kt_P,zcs,zct,zcu,zcv,zcw,zcx,zcy,zcz,zda,zdb,zdc,zdd,zde,zdf,zdg,zdh,zdi,zdj,zdk,reduceCtorEq,zdl,zdm,zdn,goInt,zdo,zdp,zdq,zdr,zds,zdt,zdu,zdv,zdw,zdx,zdy,zdz,zea,zeb,zec,zed,zdk,zee,zef,zeg,zeh,zei,zej,zek,zel,zem,zen,zeo,zep,zeq,zer,zes,zet,zeu,zev,zew,zex,zey,ya,yb,yc,yd,ye,yf,ts_int,ts_int64,ts_bool,ts_ints,ts_post,ts_posts,yg,yh,yi,yj,yk,yl,ym,ts_intsl,ts_int64s,ts_bools,ts_side,ts_sideb,ts_pints,ts_pbool,aPure,aLen]) hr (by omega) ?_
        simp only [zfd,zaa,zab,zac,zad,zae,zaf,zag,zah,zai,zaj,zak,zal,zam,zan,zao,zap,zaq,zar,zas,zat,zau,zav,zaw,zax,zay,zaz,zba,aUn,zbb,zbc,zbd,zbe,zbf,zbg,zbh,zbi,zbj,zbk,zbl,zbm,zbn,flat,simple,zbo,zbp,zbq,zbr,zbs,zbt,zbu,zbv,zbw,zbx,zby,zbz,zca,zcb,zcc,zcd,zce,zcf,zcg,zch,zci,zcj,zck,zcl,zcm,zcn,zco,zcp,zcq,zcr,Nat.reduceEqDiff,Nat.reduceLT,Nat.reduceAdd,Nat.reduceSub,reduceIte,Kt_P,zcs,zct,zcu,zcv,zcw,zcx,zcy,zcz,zda,zdb,zdc,zdd,zde,zdf,zdg,zdh,zdi,zdj,zdk,reduceCtorEq,zdl,zdm,zdn,goInt,zdo,zdp,zdq,zdr,zds,zdt,zdu,zdv,zdw,zdx,zdy,zdz,zea,zeb,zec,zed,zdk,zee,zef,zeg,zeh,zei,zej,zek,zel,zem,zen,zeo,zep,zeq,zer,zes,zet,zeu,zev,zew,zex,zey,ya,yb,yc,yd,ye,yf,ts_int,ts_int64,ts_bool,ts_ints,ts_post,ts_posts,yg,yh,yi,yj,yk,yl,ym,ts_intsl,ts_int64s,ts_bools,ts_side,ts_sideb,ts_pints,ts_pbool,aPure,aLen]
        exact hq _ H vs hE ⟨b, rfl, hP, hl⟩
end Go.Sh
