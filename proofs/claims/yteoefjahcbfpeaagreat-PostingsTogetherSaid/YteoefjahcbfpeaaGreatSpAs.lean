/- What single functions do: the book of lists. -/
import Derived.Test.YteoefjahcbfpeaaGreatSpAr
namespace Go.Sh
open Go Go.Proofs
set_option linter.unusedSimpArgs false
set_option linter.unusedVariables false
set_option maxRecDepth 8000
set_option maxHeartbeats 4000000

theorem Cal_kernel {K : Ctx} {g : FuncId} {xs : Array Value} {A : AHeap} {v : Value} {Q : Value → AHeap → Prop} (n : Nat) (h : (rec K n).call g xs A = some (v, A)) (hq : Q v A) : Cal K g xs A Q := ⟨n, v, A, h, hq⟩

theorem nilA0 (A : AHeap) (Q : Value → AHeap → Prop) (hq : Q (.bool true) A) : Cal Kt 36 #[.slice none 0 0] A Q := Cal_kernel 40 (by kernel_rfl) hq
theorem tB0 : tsize Tryz.prog 30 = some 1 := by kernel_rfl
theorem yB0 : type_of% Tryz.underlying30 := Tryz.underlying30
theorem nilA1 (A : AHeap) (Q : Value → AHeap → Prop) (hq : Q (.bool true) A) : Cal Kt 37 #[.slice none 0 0] A Q := Cal_kernel 40 (by kernel_rfl) hq
theorem tB1 : tsize Tryz.prog 31 = some 1 := by kernel_rfl
theorem yB1 : type_of% Tryz.underlying31 := Tryz.underlying31
theorem nilA2 (A : AHeap) (Q : Value → AHeap → Prop) (hq : Q (.bool true) A) : Cal Kt 38 #[.slice none 0 0] A Q := Cal_kernel 40 (by kernel_rfl) hq
theorem tB2 : tsize Tryz.prog 32 = some 1 := by kernel_rfl
theorem yB2 : type_of% Tryz.underlying32 := Tryz.underlying32
theorem nilA3 (A : AHeap) (Q : Value → AHeap → Prop) (hq : Q (.bool true) A) : Cal Kt 39 #[.slice none 0 0] A Q := Cal_kernel 40 (by kernel_rfl) hq
theorem tB3 : tsize Tryz.prog 33 = some 1 := by kernel_rfl
theorem yB3 : type_of% Tryz.underlying33 := Tryz.underlying33
theorem nilA4 (A : AHeap) (Q : Value → AHeap → Prop) (hq : Q (.bool true) A) : Cal Kt 40 #[.slice none 0 0] A Q := Cal_kernel 40 (by kernel_rfl) hq
theorem tB4 : tsize Tryz.prog 34 = some 1 := by kernel_rfl
theorem yB4 : type_of% Tryz.underlying34 := Tryz.underlying34
theorem nilA5 (A : AHeap) (Q : Value → AHeap → Prop) (hq : Q (.bool true) A) : Cal Kt 41 #[.slice none 0 0] A Q := Cal_kernel 40 (by kernel_rfl) hq
theorem tB5 : tsize Tryz.prog 35 = some 1 := by kernel_rfl
theorem yB5 : type_of% Tryz.underlying35 := Tryz.underlying35
theorem nilA6 (A : AHeap) (Q : Value → AHeap → Prop) (hq : Q (.bool true) A) : Cal Kt 42 #[.slice none 0 0] A Q := Cal_kernel 40 (by kernel_rfl) hq
theorem tB6 : tsize Tryz.prog 36 = some 1 := by kernel_rfl
theorem yB6 : type_of% Tryz.underlying36 := Tryz.underlying36
theorem nilA7 (A : AHeap) (Q : Value → AHeap → Prop) (hq : Q (.bool true) A) : Cal Kt 43 #[.slice none 0 0] A Q := Cal_kernel 40 (by kernel_rfl) hq
theorem tB7 : tsize Tryz.prog 37 = some 1 := by kernel_rfl
theorem yB7 : type_of% Tryz.underlying37 := Tryz.underlying37
theorem nilA8 (A : AHeap) (Q : Value → AHeap → Prop) (hq : Q (.bool true) A) : Cal Kt 44 #[.slice none 0 0] A Q := Cal_kernel 40 (by kernel_rfl) hq
theorem tB8 : tsize Tryz.prog 38 = some 1 := by kernel_rfl
theorem yB8 : type_of% Tryz.underlying38 := Tryz.underlying38
theorem nilA9 (A : AHeap) (Q : Value → AHeap → Prop) (hq : Q (.bool true) A) : Cal Kt 45 #[.slice none 0 0] A Q := Cal_kernel 40 (by kernel_rfl) hq
theorem tB9 : tsize Tryz.prog 39 = some 1 := by kernel_rfl
theorem yB9 : type_of% Tryz.underlying39 := Tryz.underlying39
theorem nilA10 (A : AHeap) (Q : Value → AHeap → Prop) (hq : Q (.bool true) A) : Cal Kt 46 #[.slice none 0 0] A Q := Cal_kernel 40 (by kernel_rfl) hq
theorem tB10 : tsize Tryz.prog 40 = some 1 := by kernel_rfl
theorem yB10 : type_of% Tryz.underlying40 := Tryz.underlying40
theorem nilA11 (A : AHeap) (Q : Value → AHeap → Prop) (hq : Q (.bool true) A) : Cal Kt 47 #[.slice none 0 0] A Q := Cal_kernel 40 (by kernel_rfl) hq
theorem tB11 : tsize Tryz.prog 41 = some 1 := by kernel_rfl
theorem yB11 : type_of% Tryz.underlying41 := Tryz.underlying41
theorem nilA12 (A : AHeap) (Q : Value → AHeap → Prop) (hq : Q (.bool true) A) : Cal Kt 48 #[.slice none 0 0] A Q := Cal_kernel 40 (by kernel_rfl) hq
theorem tB12 : tsize Tryz.prog 42 = some 1 := by kernel_rfl
theorem yB12 : type_of% Tryz.underlying42 := Tryz.underlying42
theorem nilA13 (A : AHeap) (Q : Value → AHeap → Prop) (hq : Q (.bool true) A) : Cal Kt 49 #[.slice none 0 0] A Q := Cal_kernel 40 (by kernel_rfl) hq
theorem tB13 : tsize Tryz.prog 43 = some 1 := by kernel_rfl
theorem yB13 : type_of% Tryz.underlying43 := Tryz.underlying43
theorem nilA14 (A : AHeap) (Q : Value → AHeap → Prop) (hq : Q (.bool true) A) : Cal Kt 50 #[.slice none 0 0] A Q := Cal_kernel 40 (by kernel_rfl) hq
theorem tB14 : tsize Tryz.prog 44 = some 1 := by kernel_rfl
theorem yB14 : type_of% Tryz.underlying44 := Tryz.underlying44
theorem nilA15 (A : AHeap) (Q : Value → AHeap → Prop) (hq : Q (.bool true) A) : Cal Kt 51 #[.slice none 0 0] A Q := Cal_kernel 40 (by kernel_rfl) hq
theorem tB15 : tsize Tryz.prog 45 = some 1 := by kernel_rfl
theorem yB15 : type_of% Tryz.underlying45 := Tryz.underlying45
theorem nilA16 (A : AHeap) (Q : Value → AHeap → Prop) (hq : Q (.bool true) A) : Cal Kt 52 #[.slice none 0 0] A Q := Cal_kernel 40 (by kernel_rfl) hq
theorem tB16 : tsize Tryz.prog 46 = some 1 := by kernel_rfl
theorem yB16 : type_of% Tryz.underlying46 := Tryz.underlying46
theorem nilA17 (A : AHeap) (Q : Value → AHeap → Prop) (hq : Q (.bool true) A) : Cal Kt 53 #[.slice none 0 0] A Q := Cal_kernel 40 (by kernel_rfl) hq
theorem tB17 : tsize Tryz.prog 47 = some 1 := by kernel_rfl
theorem yB17 : type_of% Tryz.underlying47 := Tryz.underlying47
theorem nilA18 (A : AHeap) (Q : Value → AHeap → Prop) (hq : Q (.bool true) A) : Cal Kt 54 #[.slice none 0 0] A Q := Cal_kernel 40 (by kernel_rfl) hq
theorem tB18 : tsize Tryz.prog 48 = some 1 := by kernel_rfl
theorem yB18 : type_of% Tryz.underlying48 := Tryz.underlying48
theorem nilA19 (A : AHeap) (Q : Value → AHeap → Prop) (hq : Q (.bool true) A) : Cal Kt 55 #[.slice none 0 0] A Q := Cal_kernel 40 (by kernel_rfl) hq
theorem tB19 : tsize Tryz.prog 49 = some 1 := by kernel_rfl
theorem yB19 : type_of% Tryz.underlying49 := Tryz.underlying49
theorem nilA20 (A : AHeap) (Q : Value → AHeap → Prop) (hq : Q (.bool true) A) : Cal Kt 56 #[.slice none 0 0] A Q := Cal_kernel 40 (by kernel_rfl) hq
theorem tB20 : tsize Tryz.prog 50 = some 1 := by kernel_rfl
theorem yB20 : type_of% Tryz.underlying50 := Tryz.underlying50
theorem nilA21 (A : AHeap) (Q : Value → AHeap → Prop) (hq : Q (.bool true) A) : Cal Kt 57 #[.slice none 0 0] A Q := Cal_kernel 40 (by kernel_rfl) hq
theorem tB21 : tsize Tryz.prog 51 = some 1 := by kernel_rfl
theorem yB21 : type_of% Tryz.underlying51 := Tryz.underlying51
theorem nilA22 (A : AHeap) (Q : Value → AHeap → Prop) (hq : Q (.bool true) A) : Cal Kt 58 #[.slice none 0 0] A Q := Cal_kernel 40 (by kernel_rfl) hq
theorem tB22 : tsize Tryz.prog 52 = some 1 := by kernel_rfl
theorem yB22 : type_of% Tryz.underlying52 := Tryz.underlying52
theorem nilA23 (A : AHeap) (Q : Value → AHeap → Prop) (hq : Q (.bool true) A) : Cal Kt 59 #[.slice none 0 0] A Q := Cal_kernel 40 (by kernel_rfl) hq
theorem tB23 : tsize Tryz.prog 53 = some 1 := by kernel_rfl
theorem yB23 : type_of% Tryz.underlying53 := Tryz.underlying53
theorem yBk : type_of% Tryz.underlying55 := Tryz.underlying55

theorem fn_bInts : Kt.funcs 75 = some Tryz.f75 := by kernel_rfl
theorem fn_bPost : Kt.funcs 35 = some Tryz.f35 := by kernel_rfl
theorem fn_bPosts : Kt.funcs 16 = some Tryz.f16 := by kernel_rfl
theorem fn_bApart : Kt.funcs 17 = some Tryz.f17 := by kernel_rfl

def nilS : Value := .slice none 0 0
def bookCells (iv pv : Value) : List Value := [nilS, nilS, iv, nilS, nilS, nilS, nilS, nilS, nilS, nilS, nilS, nilS, nilS, nilS, nilS, nilS, nilS, nilS, nilS, nilS, nilS, pv, nilS, nilS]

theorem App.elne {A : AHeap} {b : Nat} {el el' : TypeId} {cells cells' : List Value} (h : App A b el cells) (h' : App A b el' cells') : el = el' := by
  obtain ⟨_, _, _, h1⟩ := h
  obtain ⟨_, _, _, h2⟩ := h'
  rw [h1] at h2
  cases h2
  rfl
theorem App.nbox {A : AHeap} {b : Nat} {el el' : TypeId} {cells cells' : List Value} (h : App A b el cells) (h' : Box A b el' cells') : False := by
  obtain ⟨_, _, _, h1⟩ := h
  obtain ⟨_, h2⟩ := h'
  rw [h1] at h2
  cases h2
theorem Acc.app {A : AHeap} {el sz n : Nat} {v : Value} {cells : List Value} (h : Acc A el sz v n cells) {b : Nat} (hb : blockOf v b) : App A b el cells := by
  rcases h.2 with ⟨h1, _⟩ | ⟨b', h1, h2⟩
  · rw [h1] at hb; exact hb.elim
  · rw [h1] at hb
    have : b' = b := hb
    subst this
    exact h2

/-- The book: its lists, all at B or above. -/
structure BookAt (B : Nat) (A : AHeap) (bk : Nat) (vs ws : List Value) (iv pv : Value) : Prop where
  box : Box A bk 55 (bookCells iv pv)
  le : B ≤ bk
  ia : Acc A 59 1 iv vs.length vs
  ib : ∀ b, blockOf iv b → B ≤ b
  pa : Acc A 22 1 pv ws.length ws
  pb : ∀ b, blockOf pv b → B ≤ b

theorem bInts_ok (B : Nat) (A : AHeap) (bk : Nat) (vs ws : List Value) (iv pv u : Value) (h : BookAt B A bk vs ws iv pv) (hB : B ≤ A.next) (hu : ∃ o n c, u = .slice o n c) (hl : vs.length ≤ 1000000000) (Q : Value → AHeap → Prop)
    (hq : ∀ A' iv', Fr (fun b => B ≤ b) A A' → BookAt B A' bk (vs ++ [u]) ws iv' pv → Q undef A') : Cal Kt 75 #[.pointer (some ⟨bk, 0, none⟩), u] A Q := by
  refine Cal_of (nt := 14) (rs := []) fn_bInts rfl rfl rfl (Nat.le_of_ble_eq_true rfl) ?_
  obtain ⟨o, n, c, rfl⟩ := hu
  obtain ⟨oi, hi⟩ := h.ia.at
  subst hi
  have lx := h.box.load (P := Tryz.prog) (o := 2) (t := 32) Tryz.underlying32 rfl rfl
  simp only [zfd,zaa,zab,zac,zad,zae,zaf,zag,zah,zai,zaj,zak,zal,zam,zan,zao,zap,zaq,zar,zas,zat,zau,zav,zaw,zax,zay,zaz,zba,aUn,zbb,zbc,zbd,zbe,zbf,zbg,zbh,zbi,zbj,zbk,zbl,zbm,zbn,flat,simple,zbo,zbp,zbq,zbr,zbs,zbt,zbu,zbv,zbw,zbx,zby,zbz,zca,zcb,zcc,zcd,zce,zcf,zcg,zch,zci,zcj,zck,zcl,zcm,zcn,zco,zcp,zcq,zcr,Nat.reduceEqDiff,Nat.reduceLT,Nat.reduceAdd,Nat.reduceSub,reduceIte,Kt_P,zcs,zct,zcu,zcv,zcw,zcx,zcy,zcz,zda,zdb,zdc,zdd,zde,zdf,zdg,zdh,zdi,zdj,zdk,reduceCtorEq,zdl,zdm,zdn,goInt,zdo,zdp,zdq,zdr,zds,zdt,zdu,zdv,zdw,zdx,zdy,zdz,zea,zeb,zec,zed,zdk,zee,zef,zeg,zeh,zei,zej,zek,zel,zem,zen,zeo,zep,zeq,zer,zes,zet,zeu,zev,zew,zex,zey,ya,yb,yc,yd,ye,yf,ts_int,ts_int64,ts_bool,ts_ints,ts_post,ts_posts,yg,yh,yi,yj,yk,yl,ym,ts_intsl,ts_int64s,ts_bools,ts_side,ts_sideb,ts_pints,ts_pbool,aPure,aLen,yBk,tB2,yB2,lx]
  refine OpW_buildSlice_of (cs := [.slice o n c]) Tryz.underlying32 ts_ints' tz_ints' (by decide) rfl rfl rfl fun q1 G1 hq1 hm3 hF3 hQ1 => ?_
  simp only [zfd,zaa,zab,zac,zad,zae,zaf,zag,zah,zai,zaj,zak,zal,zam,zan,zao,zap,zaq,zar,zas,zat,zau,zav,zaw,zax,zay,zaz,zba,aUn,zbb,zbc,zbd,zbe,zbf,zbg,zbh,zbi,zbj,zbk,zbl,zbm,zbn,flat,simple,zbo,zbp,zbq,zbr,zbs,zbt,zbu,zbv,zbw,zbx,zby,zbz,zca,zcb,zcc,zcd,zce,zcf,zcg,zch,zci,zcj,zck,zcl,zcm,zcn,zco,zcp,zcq,zcr,Nat.reduceEqDiff,Nat.reduceLT,Nat.reduceAdd,Nat.reduceSub,reduceIte,Kt_P,zcs,zct,zcu,zcv,zcw,zcx,zcy,zcz,zda,zdb,zdc,zdd,zde,zdf,zdg,zdh,zdi,zdj,zdk,reduceCtorEq,zdl,zdm,zdn,goInt,zdo,zdp,zdq,zdr,zds,zdt,zdu,zdv,zdw,zdx,zdy,zdz,zea,zeb,zec,zed,zdk,zee,zef,zeg,zeh,zei,zej,zek,zel,zem,zen,zeo,zep,zeq,zer,zes,zet,zeu,zev,zew,zex,zey,ya,yb,yc,yd,ye,yf,ts_int,ts_int64,ts_bool,ts_ints,ts_post,ts_posts,yg,yh,yi,yj,yk,yl,ym,ts_intsl,ts_int64s,ts_bools,ts_side,ts_sideb,ts_pints,ts_pbool,aPure,aLen,yBk,tB2,yB2]
  refine OpW_append_of (n := vs.length) (k := 1) ⟨rfl, rfl⟩ Tryz.underlying32 (by rw [Kt_P, Tryz.underlying32]; rfl) ts_ints' tb_ints' tz_ints' (by simp only [zfd,zaa,zab,zac,zad,zae,zaf,zag,zah,zai,zaj,zak,zal,zam,zan,zao,zap,zaq,zar,zas,zat,zau,zav,zaw,zax,zay,zaz,zba,aUn,zbb,zbc,zbd,zbe,zbf,zbg,zbh,zbi,zbj,zbk,zbl,zbm,zbn,flat,simple,zbo,zbp,zbq,zbr,zbs,zbt,zbu,zbv,zbw,zbx,zby,zbz,zca,zcb,zcc,zcd,zce,zcf,zcg,zch,zci,zcj,zck,zcl,zcm,zcn,zco,zcp,zcq,zcr,Nat.reduceEqDiff,Nat.reduceLT,Nat.reduceAdd,Nat.reduceSub,reduceIte,Kt_P,zcs,zct,zcu,zcv,zcw,zcx,zcy,zcz,zda,zdb,zdc,zdd,zde,zdf,zdg,zdh,zdi,zdj,zdk,reduceCtorEq,zdl,zdm,zdn,goInt,zdo,zdp,zdq,zdr,zds,zdt,zdu,zdv,zdw,zdx,zdy,zdz,zea,zeb,zec,zed,zdk,zee,zef,zeg,zeh,zei,zej,zek,zel,zem,zen,zeo,zep,zeq,zer,zes,zet,zeu,zev,zew,zex,zey,ya,yb,yc,yd,ye,yf,ts_int,ts_int64,ts_bool,ts_ints,ts_post,ts_posts,yg,yh,yi,yj,yk,yl,ym,ts_intsl,ts_int64s,ts_bools,ts_side,ts_sideb,ts_pints,ts_pbool,aPure,aLen]; exact aSrc_box hQ1 rfl) ⟨rfl, rfl⟩ (by omega)
    ⟨by omega, rfl, by omega, by omega⟩ (by simp only [zfd,zaa,zab,zac,zad,zae,zaf,zag,zah,zai,zaj,zak,zal,zam,zan,zao,zap,zaq,zar,zas,zat,zau,zav,zaw,zax,zay,zaz,zba,aUn,zbb,zbc,zbd,zbe,zbf,zbg,zbh,zbi,zbj,zbk,zbl,zbm,zbn,flat,simple,zbo,zbp,zbq,zbr,zbs,zbt,zbu,zbv,zbw,zbx,zby,zbz,zca,zcb,zcc,zcd,zce,zcf,zcg,zch,zci,zcj,zck,zcl,zcm,zcn,zco,zcp,zcq,zcr,Nat.reduceEqDiff,Nat.reduceLT,Nat.reduceAdd,Nat.reduceSub,reduceIte,Kt_P,zcs,zct,zcu,zcv,zcw,zcx,zcy,zcz,zda,zdb,zdc,zdd,zde,zdf,zdg,zdh,zdi,zdj,zdk,reduceCtorEq,zdl,zdm,zdn,goInt,zdo,zdp,zdq,zdr,zds,zdt,zdu,zdv,zdw,zdx,zdy,zdz,zea,zeb,zec,zed,zdk,zee,zef,zeg,zeh,zei,zej,zek,zel,zem,zen,zeo,zep,zeq,zer,zes,zet,zeu,zev,zew,zex,zey,ya,yb,yc,yd,ye,yf,ts_int,ts_int64,ts_bool,ts_ints,ts_post,ts_posts,yg,yh,yi,yj,yk,yl,ym,ts_intsl,ts_int64s,ts_bools,ts_side,ts_sideb,ts_pints,ts_pbool,aPure,aLen]; exact h.ia.fr hF3 fun _ _ h => h) fun q2 G2 hq2 hm4 hF4 hA4 => ?_
  simp only [zfd,zaa,zab,zac,zad,zae,zaf,zag,zah,zai,zaj,zak,zal,zam,zan,zao,zap,zaq,zar,zas,zat,zau,zav,zaw,zax,zay,zaz,zba,aUn,zbb,zbc,zbd,zbe,zbf,zbg,zbh,zbi,zbj,zbk,zbl,zbm,zbn,flat,simple,zbo,zbp,zbq,zbr,zbs,zbt,zbu,zbv,zbw,zbx,zby,zbz,zca,zcb,zcc,zcd,zce,zcf,zcg,zch,zci,zcj,zck,zcl,zcm,zcn,zco,zcp,zcq,zcr,Nat.reduceEqDiff,Nat.reduceLT,Nat.reduceAdd,Nat.reduceSub,reduceIte,Kt_P,zcs,zct,zcu,zcv,zcw,zcx,zcy,zcz,zda,zdb,zdc,zdd,zde,zdf,zdg,zdh,zdi,zdj,zdk,reduceCtorEq,zdl,zdm,zdn,goInt,zdo,zdp,zdq,zdr,zds,zdt,zdu,zdv,zdw,zdx,zdy,zdz,zea,zeb,zec,zed,zdk,zee,zef,zeg,zeh,zei,zej,zek,zel,zem,zen,zeo,zep,zeq,zer,zes,zet,zeu,zev,zew,zex,zey,ya,yb,yc,yd,ye,yf,ts_int,ts_int64,ts_bool,ts_ints,ts_post,ts_posts,yg,yh,yi,yj,yk,yl,ym,ts_intsl,ts_int64s,ts_bools,ts_side,ts_sideb,ts_pints,ts_pbool,aPure,aLen,yBk,tB2,yB2] at hF4 hA4 ⊢
  have hb4 : Box G2 bk 55 (bookCells (.slice oi vs.length vs.length) pv) := hF4.box (hF3.box h.box fun h => h) fun hb => (h.ia.app hb).nbox h.box
  refine OpW_store_of (o := 2) hb4 ⟨rfl, rfl⟩ (by simp only [zfd,zaa,zab,zac,zad,zae,zaf,zag,zah,zai,zaj,zak,zal,zam,zan,zao,zap,zaq,zar,zas,zat,zau,zav,zaw,zax,zay,zaz,zba,aUn,zbb,zbc,zbd,zbe,zbf,zbg,zbh,zbi,zbj,zbk,zbl,zbm,zbn,flat,simple,zbo,zbp,zbq,zbr,zbs,zbt,zbu,zbv,zbw,zbx,zby,zbz,zca,zcb,zcc,zcd,zce,zcf,zcg,zch,zci,zcj,zck,zcl,zcm,zcn,zco,zcp,zcq,zcr,Nat.reduceEqDiff,Nat.reduceLT,Nat.reduceAdd,Nat.reduceSub,reduceIte,Kt_P,zcs,zct,zcu,zcv,zcw,zcx,zcy,zcz,zda,zdb,zdc,zdd,zde,zdf,zdg,zdh,zdi,zdj,zdk,reduceCtorEq,zdl,zdm,zdn,goInt,zdo,zdp,zdq,zdr,zds,zdt,zdu,zdv,zdw,zdx,zdy,zdz,zea,zeb,zec,zed,zdk,zee,zef,zeg,zeh,zei,zej,zek,zel,zem,zen,zeo,zep,zeq,zer,zes,zet,zeu,zev,zew,zex,zey,ya,yb,yc,yd,ye,yf,ts_int,ts_int64,ts_bool,ts_ints,ts_post,ts_posts,yg,yh,yi,yj,yk,yl,ym,ts_intsl,ts_int64s,ts_bools,ts_side,ts_sideb,ts_pints,ts_pbool,aPure,aLen]) ts_ints' (show 2 + 1 ≤ 24 by omega) rfl fun A' hn hF hB' => ?_
  simp only [zfd,zaa,zab,zac,zad,zae,zaf,zag,zah,zai,zaj,zak,zal,zam,zan,zao,zap,zaq,zar,zas,zat,zau,zav,zaw,zax,zay,zaz,zba,aUn,zbb,zbc,zbd,zbe,zbf,zbg,zbh,zbi,zbj,zbk,zbl,zbm,zbn,flat,simple,zbo,zbp,zbq,zbr,zbs,zbt,zbu,zbv,zbw,zbx,zby,zbz,zca,zcb,zcc,zcd,zce,zcf,zcg,zch,zci,zcj,zck,zcl,zcm,zcn,zco,zcp,zcq,zcr,Nat.reduceEqDiff,Nat.reduceLT,Nat.reduceAdd,Nat.reduceSub,reduceIte,Kt_P,zcs,zct,zcu,zcv,zcw,zcx,zcy,zcz,zda,zdb,zdc,zdd,zde,zdf,zdg,zdh,zdi,zdj,zdk,reduceCtorEq,zdl,zdm,zdn,goInt,zdo,zdp,zdq,zdr,zds,zdt,zdu,zdv,zdw,zdx,zdy,zdz,zea,zeb,zec,zed,zdk,zee,zef,zeg,zeh,zei,zej,zek,zel,zem,zen,zeo,zep,zeq,zer,zes,zet,zeu,zev,zew,zex,zey,ya,yb,yc,yd,ye,yf,ts_int,ts_int64,ts_bool,ts_ints,ts_post,ts_posts,yg,yh,yi,yj,yk,yl,ym,ts_intsl,ts_int64s,ts_bools,ts_side,ts_sideb,ts_pints,ts_pbool,aPure,aLen]
  have hbl := h.box.1
  have hle := h.le
  refine hq A' (.slice (some ⟨q2, 0, none⟩) (vs.length + 1) (vs.length + 1)) (Fr.trans (Fr.trans hF3.fr hF4 (W := fun b => B ≤ b) fun b hb hc => h.ib b hc) hF fun b hb hc => by omega) ⟨hB', hle, ?_, fun b hb => ?_, ?_, h.pb⟩
  · rw [List.length_append]
    exact hA4.fr hF fun b hb hc => by simp only [blockOf] at hb; omega
  · simp only [blockOf] at hb
    omega
  · refine ((h.pa.fr hF3 fun _ _ h => h).fr hF4 fun b hb hc => ?_).fr hF fun b hb hc => ?_
    · have := (h.ia.app hc).elne (h.pa.app hb)
      revert this
      decide
    · subst hc
      exact (h.pa.app hb).nbox h.box

theorem bPost_ok (B : Nat) (A : AHeap) (bk : Nat) (vs ws : List Value) (iv pv u : Value) (d : Int) (h : BookAt B A bk vs ws iv pv) (hB : B ≤ A.next) (hu : ∃ o n c, u = .slice o n c) (hl : vs.length ≤ 1000000000) (Q : Value → AHeap → Prop)
    (hq : ∀ A' iv', Fr (fun b => B ≤ b) A A' → BookAt B A' bk (vs ++ [u]) ws iv' pv → Q undef A') : Cal Kt 35 #[.pointer (some ⟨bk, 0, none⟩), .agg #[.int .i64 d, u]] A Q := by
  refine Cal_of (nt := 8) (rs := []) fn_bPost rfl rfl rfl (Nat.le_of_ble_eq_true rfl) ?_
  obtain ⟨o, n, c, rfl⟩ := hu
  simp only [zfd,zaa,zab,zac,zad,zae,zaf,zag,zah,zai,zaj,zak,zal,zam,zan,zao,zap,zaq,zar,zas,zat,zau,zav,zaw,zax,zay,zaz,zba,aUn,zbb,zbc,zbd,zbe,zbf,zbg,zbh,zbi,zbj,zbk,zbl,zbm,zbn,flat,simple,zbo,zbp,zbq,zbr,zbs,zbt,zbu,zbv,zbw,zbx,zby,zbz,zca,zcb,zcc,zcd,zce,zcf,zcg,zch,zci,zcj,zck,zcl,zcm,zcn,zco,zcp,zcq,zcr,Nat.reduceEqDiff,Nat.reduceLT,Nat.reduceAdd,Nat.reduceSub,reduceIte,Kt_P,zcs,zct,zcu,zcv,zcw,zcx,zcy,zcz,zda,zdb,zdc,zdd,zde,zdf,zdg,zdh,zdi,zdj,zdk,reduceCtorEq,zdl,zdm,zdn,goInt,zdo,zdp,zdq,zdr,zds,zdt,zdu,zdv,zdw,zdx,zdy,zdz,zea,zeb,zec,zed,zdk,zee,zef,zeg,zeh,zei,zej,zek,zel,zem,zen,zeo,zep,zeq,zer,zes,zet,zeu,zev,zew,zex,zey,ya,yb,yc,yd,ye,yf,ts_int,ts_int64,ts_bool,ts_ints,ts_post,ts_posts,yg,yh,yi,yj,yk,yl,ym,ts_intsl,ts_int64s,ts_bools,ts_side,ts_sideb,ts_pints,ts_pbool,aPure,aLen]
  refine OpW_box_of ts_post rfl fun b1 A1 hb1 hn1 hE1 hB1 => ?_
  replace hB1 : Box A1 b1 61 [.int .i64 d, .slice o n c] := hB1
  have l1 := hB1.load (P := Tryz.prog) (o := 1) (t := 59) Tryz.underlying59 rfl rfl
  simp only [zfd,zaa,zab,zac,zad,zae,zaf,zag,zah,zai,zaj,zak,zal,zam,zan,zao,zap,zaq,zar,zas,zat,zau,zav,zaw,zax,zay,zaz,zba,aUn,zbb,zbc,zbd,zbe,zbf,zbg,zbh,zbi,zbj,zbk,zbl,zbm,zbn,flat,simple,zbo,zbp,zbq,zbr,zbs,zbt,zbu,zbv,zbw,zbx,zby,zbz,zca,zcb,zcc,zcd,zce,zcf,zcg,zch,zci,zcj,zck,zcl,zcm,zcn,zco,zcp,zcq,zcr,Nat.reduceEqDiff,Nat.reduceLT,Nat.reduceAdd,Nat.reduceSub,reduceIte,Kt_P,zcs,zct,zcu,zcv,zcw,zcx,zcy,zcz,zda,zdb,zdc,zdd,zde,zdf,zdg,zdh,zdi,zdj,zdk,reduceCtorEq,zdl,zdm,zdn,goInt,zdo,zdp,zdq,zdr,zds,zdt,zdu,zdv,zdw,zdx,zdy,zdz,zea,zeb,zec,zed,zdk,zee,zef,zeg,zeh,zei,zej,zek,zel,zem,zen,zeo,zep,zeq,zer,zes,zet,zeu,zev,zew,zex,zey,ya,yb,yc,yd,ye,yf,ts_int,ts_int64,ts_bool,ts_ints,ts_post,ts_posts,yg,yh,yi,yj,yk,yl,ym,ts_intsl,ts_int64s,ts_bools,ts_side,ts_sideb,ts_pints,ts_pbool,aPure,aLen,l1]
  rw [CalF_cal (Kt_prim (by decide) _ _)]
  refine bInts_ok B A1 bk vs ws iv pv (.slice o n c) ⟨hE1.box h.box fun h => h, h.le, h.ia.fr hE1 fun _ _ h => h, h.ib, h.pa.fr hE1 fun _ _ h => h, h.pb⟩ (by omega) ⟨o, n, c, rfl⟩ hl _ fun A' iv' hF hBk => ?_
  simp only [zfd,zaa,zab,zac,zad,zae,zaf,zag,zah,zai,zaj,zak,zal,zam,zan,zao,zap,zaq,zar,zas,zat,zau,zav,zaw,zax,zay,zaz,zba,aUn,zbb,zbc,zbd,zbe,zbf,zbg,zbh,zbi,zbj,zbk,zbl,zbm,zbn,flat,simple,zbo,zbp,zbq,zbr,zbs,zbt,zbu,zbv,zbw,zbx,zby,zbz,zca,zcb,zcc,zcd,zce,zcf,zcg,zch,zci,zcj,zck,zcl,zcm,zcn,zco,zcp,zcq,zcr,Nat.reduceEqDiff,Nat.reduceLT,Nat.reduceAdd,Nat.reduceSub,reduceIte,Kt_P,zcs,zct,zcu,zcv,zcw,zcx,zcy,zcz,zda,zdb,zdc,zdd,zde,zdf,zdg,zdh,zdi,zdj,zdk,reduceCtorEq,zdl,zdm,zdn,goInt,zdo,zdp,zdq,zdr,zds,zdt,zdu,zdv,zdw,zdx,zdy,zdz,zea,zeb,zec,zed,zdk,zee,zef,zeg,zeh,zei,zej,zek,zel,zem,zen,zeo,zep,zeq,zer,zes,zet,zeu,zev,zew,zex,zey,ya,yb,yc,yd,ye,yf,ts_int,ts_int64,ts_bool,ts_ints,ts_post,ts_posts,yg,yh,yi,yj,yk,yl,ym,ts_intsl,ts_int64s,ts_bools,ts_side,ts_sideb,ts_pints,ts_pbool,aPure,aLen]
  exact hq A' iv' (Fr.trans hE1.fr hF fun _ _ h => h) hBk

/-- What may be read of a list of posts, in whatever memory its data lies. -/
def PRd (A : AHeap) (v : Value) (ds : List Int) (us : List Value) : Prop :=
  ∃ o c, v = .slice o us.length c ∧ ds.length = us.length ∧ ∀ i (h : i < us.length) (h' : i < ds.length), (∃ o n c, us[i] = .slice o n c) ∧ ∃ b, o = some ⟨b, 0, none⟩ ∧ ∀ H, (∀ b el cells, Dat A b el cells → Dat H b el cells) →
    aLoadVar Tryz.prog H 61 (.pointer (some ⟨b, i * 2, none⟩)) = some (.agg #[.int .i64 ds[i], us[i]])

theorem bPosts_ok (B : Nat) (A : AHeap) (bk : Nat) (vs ws : List Value) (iv pv v : Value) (ds : List Int) (us : List Value) (h : BookAt B A bk vs ws iv pv) (hB : B ≤ A.next) (hv : PRd A v ds us) (hl : vs.length + us.length ≤ 1000000000) (hl2 : ws.length ≤ 1000000) (Q : Value → AHeap → Prop)
    (hq : ∀ A' iv' pv', Fr (fun b => B ≤ b) A A' → BookAt B A' bk (vs ++ us) (ws ++ [v]) iv' pv' → Q undef A') : Cal Kt 16 #[.pointer (some ⟨bk, 0, none⟩), v] A Q := by
  refine Cal_of (nt := 27) (rs := []) fn_bPosts rfl rfl rfl (Nat.le_of_ble_eq_true rfl) ?_
  obtain ⟨o, c, rfl, hds, hv⟩ := hv
  obtain ⟨op, hp⟩ := h.pa.at
  subst hp
  have lx := h.box.load (P := Tryz.prog) (o := 21) (t := 51) Tryz.underlying51 rfl rfl
  simp only [zfd,zaa,zab,zac,zad,zae,zaf,zag,zah,zai,zaj,zak,zal,zam,zan,zao,zap,zaq,zar,zas,zat,zau,zav,zaw,zax,zay,zaz,zba,aUn,zbb,zbc,zbd,zbe,zbf,zbg,zbh,zbi,zbj,zbk,zbl,zbm,zbn,flat,simple,zbo,zbp,zbq,zbr,zbs,zbt,zbu,zbv,zbw,zbx,zby,zbz,zca,zcb,zcc,zcd,zce,zcf,zcg,zch,zci,zcj,zck,zcl,zcm,zcn,zco,zcp,zcq,zcr,Nat.reduceEqDiff,Nat.reduceLT,Nat.reduceAdd,Nat.reduceSub,reduceIte,Kt_P,zcs,zct,zcu,zcv,zcw,zcx,zcy,zcz,zda,zdb,zdc,zdd,zde,zdf,zdg,zdh,zdi,zdj,zdk,reduceCtorEq,zdl,zdm,zdn,goInt,zdo,zdp,zdq,zdr,zds,zdt,zdu,zdv,zdw,zdx,zdy,zdz,zea,zeb,zec,zed,zdk,zee,zef,zeg,zeh,zei,zej,zek,zel,zem,zen,zeo,zep,zeq,zer,zes,zet,zeu,zev,zew,zex,zey,ya,yb,yc,yd,ye,yf,ts_int,ts_int64,ts_bool,ts_ints,ts_post,ts_posts,yg,yh,yi,yj,yk,yl,ym,ts_intsl,ts_int64s,ts_bools,ts_side,ts_sideb,ts_pints,ts_pbool,aPure,aLen,yBk,tB21,yB21,lx]
  refine OpW_buildSlice_of (cs := [.slice o us.length c]) Tryz.underlying51 ts_posts' tz_posts' (by decide) rfl rfl rfl fun q1 G1 hq1 hm3 hF3 hQ1 => ?_
  simp only [zfd,zaa,zab,zac,zad,zae,zaf,zag,zah,zai,zaj,zak,zal,zam,zan,zao,zap,zaq,zar,zas,zat,zau,zav,zaw,zax,zay,zaz,zba,aUn,zbb,zbc,zbd,zbe,zbf,zbg,zbh,zbi,zbj,zbk,zbl,zbm,zbn,flat,simple,zbo,zbp,zbq,zbr,zbs,zbt,zbu,zbv,zbw,zbx,zby,zbz,zca,zcb,zcc,zcd,zce,zcf,zcg,zch,zci,zcj,zck,zcl,zcm,zcn,zco,zcp,zcq,zcr,Nat.reduceEqDiff,Nat.reduceLT,Nat.reduceAdd,Nat.reduceSub,reduceIte,Kt_P,zcs,zct,zcu,zcv,zcw,zcx,zcy,zcz,zda,zdb,zdc,zdd,zde,zdf,zdg,zdh,zdi,zdj,zdk,reduceCtorEq,zdl,zdm,zdn,goInt,zdo,zdp,zdq,zdr,zds,zdt,zdu,zdv,zdw,zdx,zdy,zdz,zea,zeb,zec,zed,zdk,zee,zef,zeg,zeh,zei,zej,zek,zel,zem,zen,zeo,zep,zeq,zer,zes,zet,zeu,zev,zew,zex,zey,ya,yb,yc,yd,ye,yf,ts_int,ts_int64,ts_bool,ts_ints,ts_post,ts_posts,yg,yh,yi,yj,yk,yl,ym,ts_intsl,ts_int64s,ts_bools,ts_side,ts_sideb,ts_pints,ts_pbool,aPure,aLen,yBk,tB21,yB21]
  refine OpW_append_of (n := ws.length) (k := 1) ⟨rfl, rfl⟩ Tryz.underlying51 (by rw [Kt_P, Tryz.underlying51]; rfl) ts_posts' tb_posts' tz_posts' (by simp only [zfd,zaa,zab,zac,zad,zae,zaf,zag,zah,zai,zaj,zak,zal,zam,zan,zao,zap,zaq,zar,zas,zat,zau,zav,zaw,zax,zay,zaz,zba,aUn,zbb,zbc,zbd,zbe,zbf,zbg,zbh,zbi,zbj,zbk,zbl,zbm,zbn,flat,simple,zbo,zbp,zbq,zbr,zbs,zbt,zbu,zbv,zbw,zbx,zby,zbz,zca,zcb,zcc,zcd,zce,zcf,zcg,zch,zci,zcj,zck,zcl,zcm,zcn,zco,zcp,zcq,zcr,Nat.reduceEqDiff,Nat.reduceLT,Nat.reduceAdd,Nat.reduceSub,reduceIte,Kt_P,zcs,zct,zcu,zcv,zcw,zcx,zcy,zcz,zda,zdb,zdc,zdd,zde,zdf,zdg,zdh,zdi,zdj,zdk,reduceCtorEq,zdl,zdm,zdn,goInt,zdo,zdp,zdq,zdr,zds,zdt,zdu,zdv,zdw,zdx,zdy,zdz,zea,zeb,zec,zed,zdk,zee,zef,zeg,zeh,zei,zej,zek,zel,zem,zen,zeo,zep,zeq,zer,zes,zet,zeu,zev,zew,zex,zey,ya,yb,yc,yd,ye,yf,ts_int,ts_int64,ts_bool,ts_ints,ts_post,ts_posts,yg,yh,yi,yj,yk,yl,ym,ts_intsl,ts_int64s,ts_bools,ts_side,ts_sideb,ts_pints,ts_pbool,aPure,aLen]; exact aSrc_box hQ1 rfl) ⟨rfl, rfl⟩ (by omega)
    ⟨by omega, rfl, by omega, by omega⟩ (by simp only [zfd,zaa,zab,zac,zad,zae,zaf,zag,zah,zai,zaj,zak,zal,zam,zan,zao,zap,zaq,zar,zas,zat,zau,zav,zaw,zax,zay,zaz,zba,aUn,zbb,zbc,zbd,zbe,zbf,zbg,zbh,zbi,zbj,zbk,zbl,zbm,zbn,flat,simple,zbo,zbp,zbq,zbr,zbs,zbt,zbu,zbv,zbw,zbx,zby,zbz,zca,zcb,zcc,zcd,zce,zcf,zcg,zch,zci,zcj,zck,zcl,zcm,zcn,zco,zcp,zcq,zcr,Nat.reduceEqDiff,Nat.reduceLT,Nat.reduceAdd,Nat.reduceSub,reduceIte,Kt_P,zcs,zct,zcu,zcv,zcw,zcx,zcy,zcz,zda,zdb,zdc,zdd,zde,zdf,zdg,zdh,zdi,zdj,zdk,reduceCtorEq,zdl,zdm,zdn,goInt,zdo,zdp,zdq,zdr,zds,zdt,zdu,zdv,zdw,zdx,zdy,zdz,zea,zeb,zec,zed,zdk,zee,zef,zeg,zeh,zei,zej,zek,zel,zem,zen,zeo,zep,zeq,zer,zes,zet,zeu,zev,zew,zex,zey,ya,yb,yc,yd,ye,yf,ts_int,ts_int64,ts_bool,ts_ints,ts_post,ts_posts,yg,yh,yi,yj,yk,yl,ym,ts_intsl,ts_int64s,ts_bools,ts_side,ts_sideb,ts_pints,ts_pbool,aPure,aLen]; exact h.pa.fr hF3 fun _ _ h => h) fun q2 G2 hq2 hm4 hF4 hA4 => ?_
  simp only [zfd,zaa,zab,zac,zad,zae,zaf,zag,zah,zai,zaj,zak,zal,zam,zan,zao,zap,zaq,zar,zas,zat,zau,zav,zaw,zax,zay,zaz,zba,aUn,zbb,zbc,zbd,zbe,zbf,zbg,zbh,zbi,zbj,zbk,zbl,zbm,zbn,flat,simple,zbo,zbp,zbq,zbr,zbs,zbt,zbu,zbv,zbw,zbx,zby,zbz,zca,zcb,zcc,zcd,zce,zcf,zcg,zch,zci,zcj,zck,zcl,zcm,zcn,zco,zcp,zcq,zcr,Nat.reduceEqDiff,Nat.reduceLT,Nat.reduceAdd,Nat.reduceSub,reduceIte,Kt_P,zcs,zct,zcu,zcv,zcw,zcx,zcy,zcz,zda,zdb,zdc,zdd,zde,zdf,zdg,zdh,zdi,zdj,zdk,reduceCtorEq,zdl,zdm,zdn,goInt,zdo,zdp,zdq,zdr,zds,zdt,zdu,zdv,zdw,zdx,zdy,zdz,zea,zeb,zec,zed,zdk,zee,zef,zeg,zeh,zei,zej,zek,zel,zem,zen,zeo,zep,zeq,zer,zes,zet,zeu,zev,zew,zex,zey,ya,yb,yc,yd,ye,yf,ts_int,ts_int64,ts_bool,ts_ints,ts_post,ts_posts,yg,yh,yi,yj,yk,yl,ym,ts_intsl,ts_int64s,ts_bools,ts_side,ts_sideb,ts_pints,ts_pbool,aPure,aLen,yBk,tB21,yB21] at hF4 hA4 ⊢
  have hb4 : Box G2 bk 55 (bookCells iv (.slice op ws.length ws.length)) := hF4.box (hF3.box h.box fun h => h) fun hb => (h.pa.app hb).nbox h.box
  refine OpW_store_of (o := 21) hb4 ⟨rfl, rfl⟩ (by simp only [zfd,zaa,zab,zac,zad,zae,zaf,zag,zah,zai,zaj,zak,zal,zam,zan,zao,zap,zaq,zar,zas,zat,zau,zav,zaw,zax,zay,zaz,zba,aUn,zbb,zbc,zbd,zbe,zbf,zbg,zbh,zbi,zbj,zbk,zbl,zbm,zbn,flat,simple,zbo,zbp,zbq,zbr,zbs,zbt,zbu,zbv,zbw,zbx,zby,zbz,zca,zcb,zcc,zcd,zce,zcf,zcg,zch,zci,zcj,zck,zcl,zcm,zcn,zco,zcp,zcq,zcr,Nat.reduceEqDiff,Nat.reduceLT,Nat.reduceAdd,Nat.reduceSub,reduceIte,Kt_P,zcs,zct,zcu,zcv,zcw,zcx,zcy,zcz,zda,zdb,zdc,zdd,zde,zdf,zdg,zdh,zdi,zdj,zdk,reduceCtorEq,zdl,zdm,zdn,goInt,zdo,zdp,zdq,zdr,zds,zdt,zdu,zdv,zdw,zdx,zdy,zdz,zea,zeb,zec,zed,zdk,zee,zef,zeg,zeh,zei,zej,zek,zel,zem,zen,zeo,zep,zeq,zer,zes,zet,zeu,zev,zew,zex,zey,ya,yb,yc,yd,ye,yf,ts_int,ts_int64,ts_bool,ts_ints,ts_post,ts_posts,yg,yh,yi,yj,yk,yl,ym,ts_intsl,ts_int64s,ts_bools,ts_side,ts_sideb,ts_pints,ts_pbool,aPure,aLen]) ts_posts' (show 21 + 1 ≤ 24 by omega) rfl fun A1 hn hF hB' => ?_
  have hbl := h.box.1
  have hle := h.le
  have hFF : Fr (fun b => B ≤ b) A A1 := Fr.trans (Fr.trans hF3.fr hF4 (W := fun b => B ≤ b) fun b hb hc => h.pb b hc) hF fun b hb hc => by omega
  have hBk : BookAt B A1 bk vs (ws ++ [.slice o us.length c]) iv (.slice (some ⟨q2, 0, none⟩) (ws.length + 1) (ws.length + 1)) := by
    refine ⟨hB', hle, ?_, h.ib, ?_, fun b hb => ?_⟩
    · refine ((h.ia.fr hF3 fun _ _ h => h).fr hF4 fun b hb hc => ?_).fr hF fun b hb hc => ?_
      · have := (h.pa.app hc).elne (h.ia.app hb)
        revert this
        decide
      · subst hc
        exact (h.ia.app hb).nbox h.box
    · rw [List.length_append]
      exact hA4.fr hF fun b hb hc => by simp only [blockOf] at hb; omega
    · simp only [blockOf] at hb
      omega
  clear hF hB' hb4 hA4 hF4 lx
  have hnx := hFF.next
  simp only [zfd,zaa,zab,zac,zad,zae,zaf,zag,zah,zai,zaj,zak,zal,zam,zan,zao,zap,zaq,zar,zas,zat,zau,zav,zaw,zax,zay,zaz,zba,aUn,zbb,zbc,zbd,zbe,zbf,zbg,zbh,zbi,zbj,zbk,zbl,zbm,zbn,flat,simple,zbo,zbp,zbq,zbr,zbs,zbt,zbu,zbv,zbw,zbx,zby,zbz,zca,zcb,zcc,zcd,zce,zcf,zcg,zch,zci,zcj,zck,zcl,zcm,zcn,zco,zcp,zcq,zcr,Nat.reduceEqDiff,Nat.reduceLT,Nat.reduceAdd,Nat.reduceSub,reduceIte,Kt_P,zcs,zct,zcu,zcv,zcw,zcx,zcy,zcz,zda,zdb,zdc,zdd,zde,zdf,zdg,zdh,zdi,zdj,zdk,reduceCtorEq,zdl,zdm,zdn,goInt,zdo,zdp,zdq,zdr,zds,zdt,zdu,zdv,zdw,zdx,zdy,zdz,zea,zeb,zec,zed,zdk,zee,zef,zeg,zeh,zei,zej,zek,zel,zem,zen,zeo,zep,zeq,zer,zes,zet,zeu,zev,zew,zex,zey,ya,yb,yc,yd,ye,yf,ts_int,ts_int64,ts_bool,ts_ints,ts_post,ts_posts,yg,yh,yi,yj,yk,yl,ym,ts_intsl,ts_int64s,ts_bools,ts_side,ts_sideb,ts_pints,ts_pbool,aPure,aLen,yBk,tB21,yB21]
  refine Lop_inv (fun k e H => ∃ (i : Nat) (iv : Value), (e 0 = .pointer (some ⟨bk, 0, none⟩) ∧ e 1 = .slice o us.length c ∧ e 4 = .int .i64 i) ∧ k = us.length - i ∧ i ≤ us.length ∧ Fr (fun b => B ≤ b) A H ∧ BookAt B H bk (vs ++ us.take i) (ws ++ [.slice o us.length c]) iv (.slice (some ⟨q2, 0, none⟩) (ws.length + 1) (ws.length + 1)))
    ?_ us.length _ _ ⟨0, iv, by simp [put_at, argEnv], by simp, by simp, hFF, by simpa using hBk⟩
  rintro k e H ⟨i, iv, ⟨e0, e1, e4⟩, rfl, hi, hFH, hBk⟩
  simp only [zfd,zaa,zab,zac,zad,zae,zaf,zag,zah,zai,zaj,zak,zal,zam,zan,zao,zap,zaq,zar,zas,zat,zau,zav,zaw,zax,zay,zaz,zba,aUn,zbb,zbc,zbd,zbe,zbf,zbg,zbh,zbi,zbj,zbk,zbl,zbm,zbn,flat,simple,zbo,zbp,zbq,zbr,zbs,zbt,zbu,zbv,zbw,zbx,zby,zbz,zca,zcb,zcc,zcd,zce,zcf,zcg,zch,zci,zcj,zck,zcl,zcm,zcn,zco,zcp,zcq,zcr,Nat.reduceEqDiff,Nat.reduceLT,Nat.reduceAdd,Nat.reduceSub,reduceIte,Kt_P,zcs,zct,zcu,zcv,zcw,zcx,zcy,zcz,zda,zdb,zdc,zdd,zde,zdf,zdg,zdh,zdi,zdj,zdk,reduceCtorEq,zdl,zdm,zdn,goInt,zdo,zdp,zdq,zdr,zds,zdt,zdu,zdv,zdw,zdx,zdy,zdz,zea,zeb,zec,zed,zdk,zee,zef,zeg,zeh,zei,zej,zek,zel,zem,zen,zeo,zep,zeq,zer,zes,zet,zeu,zev,zew,zex,zey,ya,yb,yc,yd,ye,yf,ts_int,ts_int64,ts_bool,ts_ints,ts_post,ts_posts,yg,yh,yi,yj,yk,yl,ym,ts_intsl,ts_int64s,ts_bools,ts_side,ts_sideb,ts_pints,ts_pbool,aPure,aLen,e0,e1,e4]
  refine Way_of (fun hlt => ?_) (fun hge => ?_)
  · obtain ⟨⟨ou, nu, cu, hu⟩, b, hob, hld⟩ := hv i hlt (by omega)
    subst hob
    have hws := wrap_succ hlt (by omega)
    have lp := hld H hFH.dat
    have hnH := hFH.next
    simp only [zfd,zaa,zab,zac,zad,zae,zaf,zag,zah,zai,zaj,zak,zal,zam,zan,zao,zap,zaq,zar,zas,zat,zau,zav,zaw,zax,zay,zaz,zba,aUn,zbb,zbc,zbd,zbe,zbf,zbg,zbh,zbi,zbj,zbk,zbl,zbm,zbn,flat,simple,zbo,zbp,zbq,zbr,zbs,zbt,zbu,zbv,zbw,zbx,zby,zbz,zca,zcb,zcc,zcd,zce,zcf,zcg,zch,zci,zcj,zck,zcl,zcm,zcn,zco,zcp,zcq,zcr,Nat.reduceEqDiff,Nat.reduceLT,Nat.reduceAdd,Nat.reduceSub,reduceIte,Kt_P,zcs,zct,zcu,zcv,zcw,zcx,zcy,zcz,zda,zdb,zdc,zdd,zde,zdf,zdg,zdh,zdi,zdj,zdk,reduceCtorEq,zdl,zdm,zdn,goInt,zdo,zdp,zdq,zdr,zds,zdt,zdu,zdv,zdw,zdx,zdy,zdz,zea,zeb,zec,zed,zdk,zee,zef,zeg,zeh,zei,zej,zek,zel,zem,zen,zeo,zep,zeq,zer,zes,zet,zeu,zev,zew,zex,zey,ya,yb,yc,yd,ye,yf,ts_int,ts_int64,ts_bool,ts_ints,ts_post,ts_posts,yg,yh,yi,yj,yk,yl,ym,ts_intsl,ts_int64s,ts_bools,ts_side,ts_sideb,ts_pints,ts_pbool,aPure,aLen,e0,e1,e4,hlt,lp,hws]
    rw [CalF_cal (Kt_prim (by decide) _ _)]
    refine bPost_ok B H bk _ _ iv _ us[i] ds[i] hBk (by omega) ⟨ou, nu, cu, hu⟩ (by simp; omega) _ fun A' iv' hF' hBk' => ?_
    simp only [zfd,zaa,zab,zac,zad,zae,zaf,zag,zah,zai,zaj,zak,zal,zam,zan,zao,zap,zaq,zar,zas,zat,zau,zav,zaw,zax,zay,zaz,zba,aUn,zbb,zbc,zbd,zbe,zbf,zbg,zbh,zbi,zbj,zbk,zbl,zbm,zbn,flat,simple,zbo,zbp,zbq,zbr,zbs,zbt,zbu,zbv,zbw,zbx,zby,zbz,zca,zcb,zcc,zcd,zce,zcf,zcg,zch,zci,zcj,zck,zcl,zcm,zcn,zco,zcp,zcq,zcr,Nat.reduceEqDiff,Nat.reduceLT,Nat.reduceAdd,Nat.reduceSub,reduceIte,Kt_P,zcs,zct,zcu,zcv,zcw,zcx,zcy,zcz,zda,zdb,zdc,zdd,zde,zdf,zdg,zdh,zdi,zdj,zdk,reduceCtorEq,zdl,zdm,zdn,goInt,zdo,zdp,zdq,zdr,zds,zdt,zdu,zdv,zdw,zdx,zdy,zdz,zea,zeb,zec,zed,zdk,zee,zef,zeg,zeh,zei,zej,zek,zel,zem,zen,zeo,zep,zeq,zer,zes,zet,zeu,zev,zew,zex,zey,ya,yb,yc,yd,ye,yf,ts_int,ts_int64,ts_bool,ts_ints,ts_post,ts_posts,yg,yh,yi,yj,yk,yl,ym,ts_intsl,ts_int64s,ts_bools,ts_side,ts_sideb,ts_pints,ts_pbool,aPure,aLen,e4,hws]
    refine ⟨us.length - (i + 1), by omega, i + 1, iv', by simp [put_at, e0, e1], rfl, by omega, Fr.trans hFH hF' fun _ _ h => h, ?_⟩
    rw [List.take_succ_eq_append_getElem hlt, ← List.append_assoc]
    exact hBk'
  · have : i = us.length := by omega
    subst this
    rw [List.take_length] at hBk
    simp only [zfd,zaa,zab,zac,zad,zae,zaf,zag,zah,zai,zaj,zak,zal,zam,zan,zao,zap,zaq,zar,zas,zat,zau,zav,zaw,zax,zay,zaz,zba,aUn,zbb,zbc,zbd,zbe,zbf,zbg,zbh,zbi,zbj,zbk,zbl,zbm,zbn,flat,simple,zbo,zbp,zbq,zbr,zbs,zbt,zbu,zbv,zbw,zbx,zby,zbz,zca,zcb,zcc,zcd,zce,zcf,zcg,zch,zci,zcj,zck,zcl,zcm,zcn,zco,zcp,zcq,zcr,Nat.reduceEqDiff,Nat.reduceLT,Nat.reduceAdd,Nat.reduceSub,reduceIte,Kt_P,zcs,zct,zcu,zcv,zcw,zcx,zcy,zcz,zda,zdb,zdc,zdd,zde,zdf,zdg,zdh,zdi,zdj,zdk,reduceCtorEq,zdl,zdm,zdn,goInt,zdo,zdp,zdq,zdr,zds,zdt,zdu,zdv,zdw,zdx,zdy,zdz,zea,zeb,zec,zed,zdk,zee,zef,zeg,zeh,zei,zej,zek,zel,zem,zen,zeo,zep,zeq,zer,zes,zet,zeu,zev,zew,zex,zey,ya,yb,yc,yd,ye,yf,ts_int,ts_int64,ts_bool,ts_ints,ts_post,ts_posts,yg,yh,yi,yj,yk,yl,ym,ts_intsl,ts_int64s,ts_bools,ts_side,ts_sideb,ts_pints,ts_pbool,aPure,aLen]
    exact hq H iv _ hFH hBk
end Go.Sh
