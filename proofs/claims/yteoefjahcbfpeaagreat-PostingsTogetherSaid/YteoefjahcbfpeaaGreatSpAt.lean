/- What single functions do: are all lists of the book one's own? -/
import Derived.Test.YteoefjahcbfpeaaGreatSpAs
namespace Go.Sh
open Go Go.Proofs
set_option linter.unusedSimpArgs false
set_option linter.unusedVariables false
set_option maxRecDepth 8000
set_option maxHeartbeats 4000000

theorem Ops_tl {K : Ctx} {ops : Array Oper} {nt : Nat} {l : List Oper} {e : Env} {A : AHeap} {Q : Env → AHeap → Prop} : Ops K ops nt (l.toArray.toList) e A Q ↔ Ops K ops nt l e A Q := Iff.rfl
theorem Ops_app {K : Ctx} {ops : Array Oper} {nt : Nat} {a : Oper} {l l' : List Oper} {e : Env} {A : AHeap} {Q : Env → AHeap → Prop} : Ops K ops nt (List.append (a :: l) l') e A Q ↔ Ops K ops nt (a :: List.append l l') e A Q := Iff.rfl
theorem Ops_app0 {K : Ctx} {ops : Array Oper} {nt : Nat} {l : List Oper} {e : Env} {A : AHeap} {Q : Env → AHeap → Prop} : Ops K ops nt (List.append [] l) e A Q ↔ Ops K ops nt l e A Q := Iff.rfl
theorem Ops_pp {K : Ctx} {ops : Array Oper} {nt : Nat} {a : Oper} {l l' : List Oper} {e : Env} {A : AHeap} {Q : Env → AHeap → Prop} : Ops K ops nt ((a :: l) ++ l') e A Q ↔ Ops K ops nt (a :: (l ++ l')) e A Q := Iff.rfl
theorem Ops_pp0 {K : Ctx} {ops : Array Oper} {nt : Nat} {l : List Oper} {e : Env} {A : AHeap} {Q : Env → AHeap → Prop} : Ops K ops nt ([] ++ l) e A Q ↔ Ops K ops nt l e A Q := Iff.rfl
theorem Kt_ch {A0 : AHeap} : ∀ g xs A v A', Kt.prim g xs A = some (v, A') → ChOK A0 A → ChOK A0 A' := by
  intro g xs A v A' h hA
  have h' : prims g xs A = some (v, A') := h
  unfold prims at h'
  split at h'
  · split at h'
    · cases h'; exact hA
    · cases h'
  · split at h'
    · split at h'
      · cases h'; exact hA
      · cases h'
    · cases h'

theorem OwnS.row {A : AHeap} {el sz n c : Nat} {v : Value} (h : OwnS A el sz v n c) {b : Nat} (hb : blockOf v b) : ∃ r, v = .slice (some ⟨b, 0, none⟩) n c ∧ b < A.next ∧ A.get b = some (.row r) ∧ r.elem = el ∧ r.x = false ∧ r.st = 3 ∧ r.cells.length = c * sz := by
  rcases h.2 with ⟨h1, _⟩ | ⟨b', r, h1, h2⟩
  · rw [h1] at hb; exact hb.elim
  · have hbb : b' = b := by rw [h1] at hb; exact hb
    subst hbb
    exact ⟨r, h1, h2⟩
theorem OwnS.kp {W : Nat → Prop} {A A' : AHeap} (hk : Kp W A A') (hn : A.next ≤ A'.next) {el sz n c : Nat} {v : Value} (h : OwnS A el sz v n c) (hw : ∀ b, blockOf v b → ¬ W b) : OwnS A' el sz v n c := by
  refine ⟨h.1, ?_⟩
  rcases h.2 with h1 | ⟨b, r, h1, h2, h3, h4, h5, h6, h7⟩
  · exact .inl h1
  · exact .inr ⟨b, r, h1, Nat.lt_of_lt_of_le h2 hn, hk b r (hw b (by rw [h1]; rfl)) h3 (by omega), h4, h5, h6, h7⟩
theorem ApIn.kp {A0 A A1 : AHeap} {el tg sz : Nat} {lsv : Value} {vs : List Value} {n c : Nat → Nat} (h : ApIn A0 A el tg sz lsv vs n c) {W : Nat → Prop} (hk : Kp W A A1) (hn : A.next ≤ A1.next) (ho : Old A0 A1) (hch : ChOK A0 A1) (hw : ∀ b, blockOf lsv b → ¬ W b)
    (hw2 : ∀ j (hj : j < vs.length) b, blockOf vs[j] b → ¬ W b) : ApIn A0 A1 el tg sz lsv vs n c :=
  ⟨hk.acc hn h.acc hw, fun j hj => (h.own j hj).kp hk hn (hw2 j hj), h.blk, h.dis, hch, ho, Nat.le_trans h.le hn, h.len, h.cap⟩

theorem bApart_ok (B : Nat) (A0 A : AHeap) (bk : Nat) (vs ws : List Value) (iv pv : Value) (n c n' c' : Nat → Nat) (h : BookAt B A bk vs ws iv pv) (hI : ApIn A0 A 3 59 1 iv vs n c) (hP : ApIn A0 A 61 22 2 pv ws n' c') (Q : Value → AHeap → Prop)
    (hq : ∀ A', Q (.bool true) A') : Cal Kt 17 #[.pointer (some ⟨bk, 0, none⟩)] A Q := by
  refine Cal_of (nt := 175) (rs := [.tmp 2]) fn_bApart rfl rfl rfl (Nat.le_of_ble_eq_true rfl) ?_
  have lx0A := h.box.load (P := Tryz.prog) (o := 0) (t := 30) Tryz.underlying30 rfl rfl
  have lx1A := h.box.load (P := Tryz.prog) (o := 1) (t := 31) Tryz.underlying31 rfl rfl
  have lx2A := h.box.load (P := Tryz.prog) (o := 2) (t := 32) Tryz.underlying32 rfl rfl
  have lx3A := h.box.load (P := Tryz.prog) (o := 3) (t := 33) Tryz.underlying33 rfl rfl
  have lx4A := h.box.load (P := Tryz.prog) (o := 4) (t := 34) Tryz.underlying34 rfl rfl
  have lx5A := h.box.load (P := Tryz.prog) (o := 5) (t := 35) Tryz.underlying35 rfl rfl
  have lx6A := h.box.load (P := Tryz.prog) (o := 6) (t := 36) Tryz.underlying36 rfl rfl
  have lx7A := h.box.load (P := Tryz.prog) (o := 7) (t := 37) Tryz.underlying37 rfl rfl
  have lx8A := h.box.load (P := Tryz.prog) (o := 8) (t := 38) Tryz.underlying38 rfl rfl
  have lx9A := h.box.load (P := Tryz.prog) (o := 9) (t := 39) Tryz.underlying39 rfl rfl
  have lx10A := h.box.load (P := Tryz.prog) (o := 10) (t := 40) Tryz.underlying40 rfl rfl
  have lx11A := h.box.load (P := Tryz.prog) (o := 11) (t := 41) Tryz.underlying41 rfl rfl
  have lx12A := h.box.load (P := Tryz.prog) (o := 12) (t := 42) Tryz.underlying42 rfl rfl
  have lx13A := h.box.load (P := Tryz.prog) (o := 13) (t := 43) Tryz.underlying43 rfl rfl
  have lx14A := h.box.load (P := Tryz.prog) (o := 14) (t := 44) Tryz.underlying44 rfl rfl
  have lx15A := h.box.load (P := Tryz.prog) (o := 15) (t := 45) Tryz.underlying45 rfl rfl
  have lx16A := h.box.load (P := Tryz.prog) (o := 16) (t := 46) Tryz.underlying46 rfl rfl
  have lx17A := h.box.load (P := Tryz.prog) (o := 17) (t := 47) Tryz.underlying47 rfl rfl
  have lx18A := h.box.load (P := Tryz.prog) (o := 18) (t := 48) Tryz.underlying48 rfl rfl
  have lx19A := h.box.load (P := Tryz.prog) (o := 19) (t := 49) Tryz.underlying49 rfl rfl
  have lx20A := h.box.load (P := Tryz.prog) (o := 20) (t := 50) Tryz.underlying50 rfl rfl
  have lx21A := h.box.load (P := Tryz.prog) (o := 21) (t := 51) Tryz.underlying51 rfl rfl
  have lx22A := h.box.load (P := Tryz.prog) (o := 22) (t := 52) Tryz.underlying52 rfl rfl
  have lx23A := h.box.load (P := Tryz.prog) (o := 23) (t := 53) Tryz.underlying53 rfl rfl
  simp only [zfd,zaa,zab,zac,zad,zae,zaf,zag,zah,zai,zaj,zak,zal,zam,zan,zao,zap,zaq,zar,zas,zat,zau,zav,zaw,zax,zay,zaz,zba,aUn,zbb,zbc,zbd,zbe,zbf,zbg,zbh,zbi,zbj,zbk,zbl,zbm,zbn,flat,simple,zbo,zbp,zbq,zbr,zbs,zbt,zbu,zbv,zbw,zbx,zby,zbz,zca,zcb,zcc,zcd,zce,zcf,zcg,zch,zci,zcj,zck,zcl,zcm,zcn,zco,zcp,zcq,zcr,Nat.reduceEqDiff,Nat.reduceLT,Nat.reduceAdd,Nat.reduceSub,reduceIte,Kt_P,zcs,zct,zcu,zcv,zcw,zcx,zcy,zcz,zda,zdb,zdc,zdd,zde,zdf,zdg,zdh,zdi,zdj,zdk,reduceCtorEq,zdl,zdm,zdn,goInt,zdo,zdp,zdq,zdr,zds,zdt,zdu,zdv,zdw,zdx,zdy,zdz,zea,zeb,zec,zed,zdk,zee,zef,zeg,zeh,zei,zej,zek,zel,zem,zen,zeo,zep,zeq,zer,zes,zet,zeu,zev,zew,zex,zey,ya,yb,yc,yd,ye,yf,ts_int,ts_int64,ts_bool,ts_ints,ts_post,ts_posts,yg,yh,yi,yj,yk,yl,ym,ts_intsl,ts_int64s,ts_bools,ts_side,ts_sideb,ts_pints,ts_pbool,aPure,aLen,Ops_tl,Ops_app,Ops_app0,Ops_pp,Ops_pp0,List.append_eq,yBk,yB0,tB0,yB1,tB1,yB2,tB2,yB3,tB3,yB4,tB4,yB5,tB5,yB6,tB6,yB7,tB7,yB8,tB8,yB9,tB9,yB10,tB10,yB11,tB11,yB12,tB12,yB13,tB13,yB14,tB14,yB15,tB15,yB16,tB16,yB17,tB17,yB18,tB18,yB19,tB19,yB20,tB20,yB21,tB21,yB22,tB22,yB23,tB23,lx0A,lx1A,lx2A,lx3A,lx4A,lx5A,lx6A,lx7A,lx8A,lx9A,lx10A,lx11A,lx12A,lx13A,lx14A,lx15A,lx16A,lx17A,lx18A,lx19A,lx20A,lx21A,lx22A,lx23A]
  rw [CalF_cal (Kt_prim (by decide) _ _)]
  refine nilA0 _ _ ?_
  simp only [zfd,zaa,zab,zac,zad,zae,zaf,zag,zah,zai,zaj,zak,zal,zam,zan,zao,zap,zaq,zar,zas,zat,zau,zav,zaw,zax,zay,zaz,zba,aUn,zbb,zbc,zbd,zbe,zbf,zbg,zbh,zbi,zbj,zbk,zbl,zbm,zbn,flat,simple,zbo,zbp,zbq,zbr,zbs,zbt,zbu,zbv,zbw,zbx,zby,zbz,zca,zcb,zcc,zcd,zce,zcf,zcg,zch,zci,zcj,zck,zcl,zcm,zcn,zco,zcp,zcq,zcr,Nat.reduceEqDiff,Nat.reduceLT,Nat.reduceAdd,Nat.reduceSub,reduceIte,Kt_P,zcs,zct,zcu,zcv,zcw,zcx,zcy,zcz,zda,zdb,zdc,zdd,zde,zdf,zdg,zdh,zdi,zdj,zdk,reduceCtorEq,zdl,zdm,zdn,goInt,zdo,zdp,zdq,zdr,zds,zdt,zdu,zdv,zdw,zdx,zdy,zdz,zea,zeb,zec,zed,zdk,zee,zef,zeg,zeh,zei,zej,zek,zel,zem,zen,zeo,zep,zeq,zer,zes,zet,zeu,zev,zew,zex,zey,ya,yb,yc,yd,ye,yf,ts_int,ts_int64,ts_bool,ts_ints,ts_post,ts_posts,yg,yh,yi,yj,yk,yl,ym,ts_intsl,ts_int64s,ts_bools,ts_side,ts_sideb,ts_pints,ts_pbool,aPure,aLen,Ops_tl,Ops_app,Ops_app0,Ops_pp,Ops_pp0,List.append_eq,yBk,yB0,tB0,yB1,tB1,yB2,tB2,yB3,tB3,yB4,tB4,yB5,tB5,yB6,tB6,yB7,tB7,yB8,tB8,yB9,tB9,yB10,tB10,yB11,tB11,yB12,tB12,yB13,tB13,yB14,tB14,yB15,tB15,yB16,tB16,yB17,tB17,yB18,tB18,yB19,tB19,yB20,tB20,yB21,tB21,yB22,tB22,yB23,tB23,lx0A,lx1A,lx2A,lx3A,lx4A,lx5A,lx6A,lx7A,lx8A,lx9A,lx10A,lx11A,lx12A,lx13A,lx14A,lx15A,lx16A,lx17A,lx18A,lx19A,lx20A,lx21A,lx22A,lx23A]
  rw [CalF_cal (Kt_prim (by decide) _ _)]
  refine nilA1 _ _ ?_
  obtain ⟨oi, hi⟩ := h.ia.at
  subst hi
  simp only [zfd,zaa,zab,zac,zad,zae,zaf,zag,zah,zai,zaj,zak,zal,zam,zan,zao,zap,zaq,zar,zas,zat,zau,zav,zaw,zax,zay,zaz,zba,aUn,zbb,zbc,zbd,zbe,zbf,zbg,zbh,zbi,zbj,zbk,zbl,zbm,zbn,flat,simple,zbo,zbp,zbq,zbr,zbs,zbt,zbu,zbv,zbw,zbx,zby,zbz,zca,zcb,zcc,zcd,zce,zcf,zcg,zch,zci,zcj,zck,zcl,zcm,zcn,zco,zcp,zcq,zcr,Nat.reduceEqDiff,Nat.reduceLT,Nat.reduceAdd,Nat.reduceSub,reduceIte,Kt_P,zcs,zct,zcu,zcv,zcw,zcx,zcy,zcz,zda,zdb,zdc,zdd,zde,zdf,zdg,zdh,zdi,zdj,zdk,reduceCtorEq,zdl,zdm,zdn,goInt,zdo,zdp,zdq,zdr,zds,zdt,zdu,zdv,zdw,zdx,zdy,zdz,zea,zeb,zec,zed,zdk,zee,zef,zeg,zeh,zei,zej,zek,zel,zem,zen,zeo,zep,zeq,zer,zes,zet,zeu,zev,zew,zex,zey,ya,yb,yc,yd,ye,yf,ts_int,ts_int64,ts_bool,ts_ints,ts_post,ts_posts,yg,yh,yi,yj,yk,yl,ym,ts_intsl,ts_int64s,ts_bools,ts_side,ts_sideb,ts_pints,ts_pbool,aPure,aLen,Ops_tl,Ops_app,Ops_app0,Ops_pp,Ops_pp0,List.append_eq,yBk,yB0,tB0,yB1,tB1,yB2,tB2,yB3,tB3,yB4,tB4,yB5,tB5,yB6,tB6,yB7,tB7,yB8,tB8,yB9,tB9,yB10,tB10,yB11,tB11,yB12,tB12,yB13,tB13,yB14,tB14,yB15,tB15,yB16,tB16,yB17,tB17,yB18,tB18,yB19,tB19,yB20,tB20,yB21,tB21,yB22,tB22,yB23,tB23,lx0A,lx1A,lx2A,lx3A,lx4A,lx5A,lx6A,lx7A,lx8A,lx9A,lx10A,lx11A,lx12A,lx13A,lx14A,lx15A,lx16A,lx17A,lx18A,lx19A,lx20A,lx21A,lx22A,lx23A]
  rw [CalF_cal (Kt_prim (by decide) _ _)]
  refine Cal_ch Kt_ch hI.ch ?_
  refine apartI_ok A0 A _ vs n c hI _ fun A1 hn1 ho1 hk1 hch1 => ?_
  have hWi : ∀ b, (∃ u ∈ vs, blockOf u b) → ∃ r, A.get b = some (.row r) ∧ r.elem = 3 ∧ r.x = false := by
    rintro b ⟨u, hu, hb⟩
    obtain ⟨j, hj, rfl⟩ := List.getElem_of_mem hu
    obtain ⟨r, _, _, h3, h4, h5, _⟩ := (hI.own j hj).row hb
    exact ⟨r, h3, h4, h5⟩
  have hb1 := hk1.box hn1 h.box fun hw => by
    obtain ⟨r, h1, _, h3⟩ := hWi bk hw
    rw [h.box.2] at h1
    cases h1
    cases h3
  have hP1 := hP.kp hk1 hn1 ho1 hch1 (fun b hb hw => by
    obtain ⟨r, h1, h2, h3⟩ := hWi b hw
    obtain ⟨_, _, _, h4⟩ := hP.acc.app hb
    rw [h4] at h1
    cases h1
    exact absurd (show 22 = 3 from h2) (by decide)) fun j hj b hb hw => by
    obtain ⟨r, h1, h2, h3⟩ := hWi b hw
    obtain ⟨r', _, _, h4, h5, _⟩ := (hP.own j hj).row hb
    rw [h4] at h1
    cases h1
    rw [h2] at h5
    exact absurd h5 (by decide)
  have lx0A1 := hb1.load (P := Tryz.prog) (o := 0) (t := 30) Tryz.underlying30 rfl rfl
  have lx1A1 := hb1.load (P := Tryz.prog) (o := 1) (t := 31) Tryz.underlying31 rfl rfl
  have lx2A1 := hb1.load (P := Tryz.prog) (o := 2) (t := 32) Tryz.underlying32 rfl rfl
  have lx3A1 := hb1.load (P := Tryz.prog) (o := 3) (t := 33) Tryz.underlying33 rfl rfl
  have lx4A1 := hb1.load (P := Tryz.prog) (o := 4) (t := 34) Tryz.underlying34 rfl rfl
  have lx5A1 := hb1.load (P := Tryz.prog) (o := 5) (t := 35) Tryz.underlying35 rfl rfl
  have lx6A1 := hb1.load (P := Tryz.prog) (o := 6) (t := 36) Tryz.underlying36 rfl rfl
  have lx7A1 := hb1.load (P := Tryz.prog) (o := 7) (t := 37) Tryz.underlying37 rfl rfl
  have lx8A1 := hb1.load (P := Tryz.prog) (o := 8) (t := 38) Tryz.underlying38 rfl rfl
  have lx9A1 := hb1.load (P := Tryz.prog) (o := 9) (t := 39) Tryz.underlying39 rfl rfl
  have lx10A1 := hb1.load (P := Tryz.prog) (o := 10) (t := 40) Tryz.underlying40 rfl rfl
  have lx11A1 := hb1.load (P := Tryz.prog) (o := 11) (t := 41) Tryz.underlying41 rfl rfl
  have lx12A1 := hb1.load (P := Tryz.prog) (o := 12) (t := 42) Tryz.underlying42 rfl rfl
  have lx13A1 := hb1.load (P := Tryz.prog) (o := 13) (t := 43) Tryz.underlying43 rfl rfl
  have lx14A1 := hb1.load (P := Tryz.prog) (o := 14) (t := 44) Tryz.underlying44 rfl rfl
  have lx15A1 := hb1.load (P := Tryz.prog) (o := 15) (t := 45) Tryz.underlying45 rfl rfl
  have lx16A1 := hb1.load (P := Tryz.prog) (o := 16) (t := 46) Tryz.underlying46 rfl rfl
  have lx17A1 := hb1.load (P := Tryz.prog) (o := 17) (t := 47) Tryz.underlying47 rfl rfl
  have lx18A1 := hb1.load (P := Tryz.prog) (o := 18) (t := 48) Tryz.underlying48 rfl rfl
  have lx19A1 := hb1.load (P := Tryz.prog) (o := 19) (t := 49) Tryz.underlying49 rfl rfl
  have lx20A1 := hb1.load (P := Tryz.prog) (o := 20) (t := 50) Tryz.underlying50 rfl rfl
  have lx21A1 := hb1.load (P := Tryz.prog) (o := 21) (t := 51) Tryz.underlying51 rfl rfl
  have lx22A1 := hb1.load (P := Tryz.prog) (o := 22) (t := 52) Tryz.underlying52 rfl rfl
  have lx23A1 := hb1.load (P := Tryz.prog) (o := 23) (t := 53) Tryz.underlying53 rfl rfl
  simp only [zfd,zaa,zab,zac,zad,zae,zaf,zag,zah,zai,zaj,zak,zal,zam,zan,zao,zap,zaq,zar,zas,zat,zau,zav,zaw,zax,zay,zaz,zba,aUn,zbb,zbc,zbd,zbe,zbf,zbg,zbh,zbi,zbj,zbk,zbl,zbm,zbn,flat,simple,zbo,zbp,zbq,zbr,zbs,zbt,zbu,zbv,zbw,zbx,zby,zbz,zca,zcb,zcc,zcd,zce,zcf,zcg,zch,zci,zcj,zck,zcl,zcm,zcn,zco,zcp,zcq,zcr,Nat.reduceEqDiff,Nat.reduceLT,Nat.reduceAdd,Nat.reduceSub,reduceIte,Kt_P,zcs,zct,zcu,zcv,zcw,zcx,zcy,zcz,zda,zdb,zdc,zdd,zde,zdf,zdg,zdh,zdi,zdj,zdk,reduceCtorEq,zdl,zdm,zdn,goInt,zdo,zdp,zdq,zdr,zds,zdt,zdu,zdv,zdw,zdx,zdy,zdz,zea,zeb,zec,zed,zdk,zee,zef,zeg,zeh,zei,zej,zek,zel,zem,zen,zeo,zep,zeq,zer,zes,zet,zeu,zev,zew,zex,zey,ya,yb,yc,yd,ye,yf,ts_int,ts_int64,ts_bool,ts_ints,ts_post,ts_posts,yg,yh,yi,yj,yk,yl,ym,ts_intsl,ts_int64s,ts_bools,ts_side,ts_sideb,ts_pints,ts_pbool,aPure,aLen,Ops_tl,Ops_app,Ops_app0,Ops_pp,Ops_pp0,List.append_eq,yBk,yB0,tB0,yB1,tB1,yB2,tB2,yB3,tB3,yB4,tB4,yB5,tB5,yB6,tB6,yB7,tB7,yB8,tB8,yB9,tB9,yB10,tB10,yB11,tB11,yB12,tB12,yB13,tB13,yB14,tB14,yB15,tB15,yB16,tB16,yB17,tB17,yB18,tB18,yB19,tB19,yB20,tB20,yB21,tB21,yB22,tB22,yB23,tB23,lx0A1,lx1A1,lx2A1,lx3A1,lx4A1,lx5A1,lx6A1,lx7A1,lx8A1,lx9A1,lx10A1,lx11A1,lx12A1,lx13A1,lx14A1,lx15A1,lx16A1,lx17A1,lx18A1,lx19A1,lx20A1,lx21A1,lx22A1,lx23A1]
  rw [CalF_cal (Kt_prim (by decide) _ _)]
  refine nilA3 _ _ ?_
  simp only [zfd,zaa,zab,zac,zad,zae,zaf,zag,zah,zai,zaj,zak,zal,zam,zan,zao,zap,zaq,zar,zas,zat,zau,zav,zaw,zax,zay,zaz,zba,aUn,zbb,zbc,zbd,zbe,zbf,zbg,zbh,zbi,zbj,zbk,zbl,zbm,zbn,flat,simple,zbo,zbp,zbq,zbr,zbs,zbt,zbu,zbv,zbw,zbx,zby,zbz,zca,zcb,zcc,zcd,zce,zcf,zcg,zch,zci,zcj,zck,zcl,zcm,zcn,zco,zcp,zcq,zcr,Nat.reduceEqDiff,Nat.reduceLT,Nat.reduceAdd,Nat.reduceSub,reduceIte,Kt_P,zcs,zct,zcu,zcv,zcw,zcx,zcy,zcz,zda,zdb,zdc,zdd,zde,zdf,zdg,zdh,zdi,zdj,zdk,reduceCtorEq,zdl,zdm,zdn,goInt,zdo,zdp,zdq,zdr,zds,zdt,zdu,zdv,zdw,zdx,zdy,zdz,zea,zeb,zec,zed,zdk,zee,zef,zeg,zeh,zei,zej,zek,zel,zem,zen,zeo,zep,zeq,zer,zes,zet,zeu,zev,zew,zex,zey,ya,yb,yc,yd,ye,yf,ts_int,ts_int64,ts_bool,ts_ints,ts_post,ts_posts,yg,yh,yi,yj,yk,yl,ym,ts_intsl,ts_int64s,ts_bools,ts_side,ts_sideb,ts_pints,ts_pbool,aPure,aLen,Ops_tl,Ops_app,Ops_app0,Ops_pp,Ops_pp0,List.append_eq,yBk,yB0,tB0,yB1,tB1,yB2,tB2,yB3,tB3,yB4,tB4,yB5,tB5,yB6,tB6,yB7,tB7,yB8,tB8,yB9,tB9,yB10,tB10,yB11,tB11,yB12,tB12,yB13,tB13,yB14,tB14,yB15,tB15,yB16,tB16,yB17,tB17,yB18,tB18,yB19,tB19,yB20,tB20,yB21,tB21,yB22,tB22,yB23,tB23,lx0A1,lx1A1,lx2A1,lx3A1,lx4A1,lx5A1,lx6A1,lx7A1,lx8A1,lx9A1,lx10A1,lx11A1,lx12A1,lx13A1,lx14A1,lx15A1,lx16A1,lx17A1,lx18A1,lx19A1,lx20A1,lx21A1,lx22A1,lx23A1]
  rw [CalF_cal (Kt_prim (by decide) _ _)]
  refine nilA4 _ _ ?_
  simp only [zfd,zaa,zab,zac,zad,zae,zaf,zag,zah,zai,zaj,zak,zal,zam,zan,zao,zap,zaq,zar,zas,zat,zau,zav,zaw,zax,zay,zaz,zba,aUn,zbb,zbc,zbd,zbe,zbf,zbg,zbh,zbi,zbj,zbk,zbl,zbm,zbn,flat,simple,zbo,zbp,zbq,zbr,zbs,zbt,zbu,zbv,zbw,zbx,zby,zbz,zca,zcb,zcc,zcd,zce,zcf,zcg,zch,zci,zcj,zck,zcl,zcm,zcn,zco,zcp,zcq,zcr,Nat.reduceEqDiff,Nat.reduceLT,Nat.reduceAdd,Nat.reduceSub,reduceIte,Kt_P,zcs,zct,zcu,zcv,zcw,zcx,zcy,zcz,zda,zdb,zdc,zdd,zde,zdf,zdg,zdh,zdi,zdj,zdk,reduceCtorEq,zdl,zdm,zdn,goInt,zdo,zdp,zdq,zdr,zds,zdt,zdu,zdv,zdw,zdx,zdy,zdz,zea,zeb,zec,zed,zdk,zee,zef,zeg,zeh,zei,zej,zek,zel,zem,zen,zeo,zep,zeq,zer,zes,zet,zeu,zev,zew,zex,zey,ya,yb,yc,yd,ye,yf,ts_int,ts_int64,ts_bool,ts_ints,ts_post,ts_posts,yg,yh,yi,yj,yk,yl,ym,ts_intsl,ts_int64s,ts_bools,ts_side,ts_sideb,ts_pints,ts_pbool,aPure,aLen,Ops_tl,Ops_app,Ops_app0,Ops_pp,Ops_pp0,List.append_eq,yBk,yB0,tB0,yB1,tB1,yB2,tB2,yB3,tB3,yB4,tB4,yB5,tB5,yB6,tB6,yB7,tB7,yB8,tB8,yB9,tB9,yB10,tB10,yB11,tB11,yB12,tB12,yB13,tB13,yB14,tB14,yB15,tB15,yB16,tB16,yB17,tB17,yB18,tB18,yB19,tB19,yB20,tB20,yB21,tB21,yB22,tB22,yB23,tB23,lx0A1,lx1A1,lx2A1,lx3A1,lx4A1,lx5A1,lx6A1,lx7A1,lx8A1,lx9A1,lx10A1,lx11A1,lx12A1,lx13A1,lx14A1,lx15A1,lx16A1,lx17A1,lx18A1,lx19A1,lx20A1,lx21A1,lx22A1,lx23A1]
  rw [CalF_cal (Kt_prim (by decide) _ _)]
  refine nilA5 _ _ ?_
  simp only [zfd,zaa,zab,zac,zad,zae,zaf,zag,zah,zai,zaj,zak,zal,zam,zan,zao,zap,zaq,zar,zas,zat,zau,zav,zaw,zax,zay,zaz,zba,aUn,zbb,zbc,zbd,zbe,zbf,zbg,zbh,zbi,zbj,zbk,zbl,zbm,zbn,flat,simple,zbo,zbp,zbq,zbr,zbs,zbt,zbu,zbv,zbw,zbx,zby,zbz,zca,zcb,zcc,zcd,zce,zcf,zcg,zch,zci,zcj,zck,zcl,zcm,zcn,zco,zcp,zcq,zcr,Nat.reduceEqDiff,Nat.reduceLT,Nat.reduceAdd,Nat.reduceSub,reduceIte,Kt_P,zcs,zct,zcu,zcv,zcw,zcx,zcy,zcz,zda,zdb,zdc,zdd,zde,zdf,zdg,zdh,zdi,zdj,zdk,reduceCtorEq,zdl,zdm,zdn,goInt,zdo,zdp,zdq,zdr,zds,zdt,zdu,zdv,zdw,zdx,zdy,zdz,zea,zeb,zec,zed,zdk,zee,zef,zeg,zeh,zei,zej,zek,zel,zem,zen,zeo,zep,zeq,zer,zes,zet,zeu,zev,zew,zex,zey,ya,yb,yc,yd,ye,yf,ts_int,ts_int64,ts_bool,ts_ints,ts_post,ts_posts,yg,yh,yi,yj,yk,yl,ym,ts_intsl,ts_int64s,ts_bools,ts_side,ts_sideb,ts_pints,ts_pbool,aPure,aLen,Ops_tl,Ops_app,Ops_app0,Ops_pp,Ops_pp0,List.append_eq,yBk,yB0,tB0,yB1,tB1,yB2,tB2,yB3,tB3,yB4,tB4,yB5,tB5,yB6,tB6,yB7,tB7,yB8,tB8,yB9,tB9,yB10,tB10,yB11,tB11,yB12,tB12,yB13,tB13,yB14,tB14,yB15,tB15,yB16,tB16,yB17,tB17,yB18,tB18,yB19,tB19,yB20,tB20,yB21,tB21,yB22,tB22,yB23,tB23,lx0A1,lx1A1,lx2A1,lx3A1,lx4A1,lx5A1,lx6A1,lx7A1,lx8A1,lx9A1,lx10A1,lx11A1,lx12A1,lx13A1,lx14A1,lx15A1,lx16A1,lx17A1,lx18A1,lx19A1,lx20A1,lx21A1,lx22A1,lx23A1]
  rw [CalF_cal (Kt_prim (by decide) _ _)]
  refine nilA6 _ _ ?_
  simp only [zfd,zaa,zab,zac,zad,zae,zaf,zag,zah,zai,zaj,zak,zal,zam,zan,zao,zap,zaq,zar,zas,zat,zau,zav,zaw,zax,zay,zaz,zba,aUn,zbb,zbc,zbd,zbe,zbf,zbg,zbh,zbi,zbj,zbk,zbl,zbm,zbn,flat,simple,zbo,zbp,zbq,zbr,zbs,zbt,zbu,zbv,zbw,zbx,zby,zbz,zca,zcb,zcc,zcd,zce,zcf,zcg,zch,zci,zcj,zck,zcl,zcm,zcn,zco,zcp,zcq,zcr,Nat.reduceEqDiff,Nat.reduceLT,Nat.reduceAdd,Nat.reduceSub,reduceIte,Kt_P,zcs,zct,zcu,zcv,zcw,zcx,zcy,zcz,zda,zdb,zdc,zdd,zde,zdf,zdg,zdh,zdi,zdj,zdk,reduceCtorEq,zdl,zdm,zdn,goInt,zdo,zdp,zdq,zdr,zds,zdt,zdu,zdv,zdw,zdx,zdy,zdz,zea,zeb,zec,zed,zdk,zee,zef,zeg,zeh,zei,zej,zek,zel,zem,zen,zeo,zep,zeq,zer,zes,zet,zeu,zev,zew,zex,zey,ya,yb,yc,yd,ye,yf,ts_int,ts_int64,ts_bool,ts_ints,ts_post,ts_posts,yg,yh,yi,yj,yk,yl,ym,ts_intsl,ts_int64s,ts_bools,ts_side,ts_sideb,ts_pints,ts_pbool,aPure,aLen,Ops_tl,Ops_app,Ops_app0,Ops_pp,Ops_pp0,List.append_eq,yBk,yB0,tB0,yB1,tB1,yB2,tB2,yB3,tB3,yB4,tB4,yB5,tB5,yB6,tB6,yB7,tB7,yB8,tB8,yB9,tB9,yB10,tB10,yB11,tB11,yB12,tB12,yB13,tB13,yB14,tB14,yB15,tB15,yB16,tB16,yB17,tB17,yB18,tB18,yB19,tB19,yB20,tB20,yB21,tB21,yB22,tB22,yB23,tB23,lx0A1,lx1A1,lx2A1,lx3A1,lx4A1,lx5A1,lx6A1,lx7A1,lx8A1,lx9A1,lx10A1,lx11A1,lx12A1,lx13A1,lx14A1,lx15A1,lx16A1,lx17A1,lx18A1,lx19A1,lx20A1,lx21A1,lx22A1,lx23A1]
  rw [CalF_cal (Kt_prim (by decide) _ _)]
  refine nilA7 _ _ ?_
  simp only [zfd,zaa,zab,zac,zad,zae,zaf,zag,zah,zai,zaj,zak,zal,zam,zan,zao,zap,zaq,zar,zas,zat,zau,zav,zaw,zax,zay,zaz,zba,aUn,zbb,zbc,zbd,zbe,zbf,zbg,zbh,zbi,zbj,zbk,zbl,zbm,zbn,flat,simple,zbo,zbp,zbq,zbr,zbs,zbt,zbu,zbv,zbw,zbx,zby,zbz,zca,zcb,zcc,zcd,zce,zcf,zcg,zch,zci,zcj,zck,zcl,zcm,zcn,zco,zcp,zcq,zcr,Nat.reduceEqDiff,Nat.reduceLT,Nat.reduceAdd,Nat.reduceSub,reduceIte,Kt_P,zcs,zct,zcu,zcv,zcw,zcx,zcy,zcz,zda,zdb,zdc,zdd,zde,zdf,zdg,zdh,zdi,zdj,zdk,reduceCtorEq,zdl,zdm,zdn,goInt,zdo,zdp,zdq,zdr,zds,zdt,zdu,zdv,zdw,zdx,zdy,zdz,zea,zeb,zec,zed,zdk,zee,zef,zeg,zeh,zei,zej,zek,zel,zem,zen,zeo,zep,zeq,zer,zes,zet,zeu,zev,zew,zex,zey,ya,yb,yc,yd,ye,yf,ts_int,ts_int64,ts_bool,ts_ints,ts_post,ts_posts,yg,yh,yi,yj,yk,yl,ym,ts_intsl,ts_int64s,ts_bools,ts_side,ts_sideb,ts_pints,ts_pbool,aPure,aLen,Ops_tl,Ops_app,Ops_app0,Ops_pp,Ops_pp0,List.append_eq,yBk,yB0,tB0,yB1,tB1,yB2,tB2,yB3,tB3,yB4,tB4,yB5,tB5,yB6,tB6,yB7,tB7,yB8,tB8,yB9,tB9,yB10,tB10,yB11,tB11,yB12,tB12,yB13,tB13,yB14,tB14,yB15,tB15,yB16,tB16,yB17,tB17,yB18,tB18,yB19,tB19,yB20,tB20,yB21,tB21,yB22,tB22,yB23,tB23,lx0A1,lx1A1,lx2A1,lx3A1,lx4A1,lx5A1,lx6A1,lx7A1,lx8A1,lx9A1,lx10A1,lx11A1,lx12A1,lx13A1,lx14A1,lx15A1,lx16A1,lx17A1,lx18A1,lx19A1,lx20A1,lx21A1,lx22A1,lx23A1]
  rw [CalF_cal (Kt_prim (by decide) _ _)]
  refine nilA8 _ _ ?_
  simp only [zfd,zaa,zab,zac,zad,zae,zaf,zag,zah,zai,zaj,zak,zal,zam,zan,zao,zap,zaq,zar,zas,zat,zau,zav,zaw,zax,zay,zaz,zba,aUn,zbb,zbc,zbd,zbe,zbf,zbg,zbh,zbi,zbj,zbk,zbl,zbm,zbn,flat,simple,zbo,zbp,zbq,zbr,zbs,zbt,zbu,zbv,zbw,zbx,zby,zbz,zca,zcb,zcc,zcd,zce,zcf,zcg,zch,zci,zcj,zck,zcl,zcm,zcn,zco,zcp,zcq,zcr,Nat.reduceEqDiff,Nat.reduceLT,Nat.reduceAdd,Nat.reduceSub,reduceIte,Kt_P,zcs,zct,zcu,zcv,zcw,zcx,zcy,zcz,zda,zdb,zdc,zdd,zde,zdf,zdg,zdh,zdi,zdj,zdk,reduceCtorEq,zdl,zdm,zdn,goInt,zdo,zdp,zdq,zdr,zds,zdt,zdu,zdv,zdw,zdx,zdy,zdz,zea,zeb,zec,zed,zdk,zee,zef,zeg,zeh,zei,zej,zek,zel,zem,zen,zeo,zep,zeq,zer,zes,zet,zeu,zev,zew,zex,zey,ya,yb,yc,yd,ye,yf,ts_int,ts_int64,ts_bool,ts_ints,ts_post,ts_posts,yg,yh,yi,yj,yk,yl,ym,ts_intsl,ts_int64s,ts_bools,ts_side,ts_sideb,ts_pints,ts_pbool,aPure,aLen,Ops_tl,Ops_app,Ops_app0,Ops_pp,Ops_pp0,List.append_eq,yBk,yB0,tB0,yB1,tB1,yB2,tB2,yB3,tB3,yB4,tB4,yB5,tB5,yB6,tB6,yB7,tB7,yB8,tB8,yB9,tB9,yB10,tB10,yB11,tB11,yB12,tB12,yB13,tB13,yB14,tB14,yB15,tB15,yB16,tB16,yB17,tB17,yB18,tB18,yB19,tB19,yB20,tB20,yB21,tB21,yB22,tB22,yB23,tB23,lx0A1,lx1A1,lx2A1,lx3A1,lx4A1,lx5A1,lx6A1,lx7A1,lx8A1,lx9A1,lx10A1,lx11A1,lx12A1,lx13A1,lx14A1,lx15A1,lx16A1,lx17A1,lx18A1,lx19A1,lx20A1,lx21A1,lx22A1,lx23A1]
  rw [CalF_cal (Kt_prim (by decide) _ _)]
  refine nilA9 _ _ ?_
  simp only [zfd,zaa,zab,zac,zad,zae,zaf,zag,zah,zai,zaj,zak,zal,zam,zan,zao,zap,zaq,zar,zas,zat,zau,zav,zaw,zax,zay,zaz,zba,aUn,zbb,zbc,zbd,zbe,zbf,zbg,zbh,zbi,zbj,zbk,zbl,zbm,zbn,flat,simple,zbo,zbp,zbq,zbr,zbs,zbt,zbu,zbv,zbw,zbx,zby,zbz,zca,zcb,zcc,zcd,zce,zcf,zcg,zch,zci,zcj,zck,zcl,zcm,zcn,zco,zcp,zcq,zcr,Nat.reduceEqDiff,Nat.reduceLT,Nat.reduceAdd,Nat.reduceSub,reduceIte,Kt_P,zcs,zct,zcu,zcv,zcw,zcx,zcy,zcz,zda,zdb,zdc,zdd,zde,zdf,zdg,zdh,zdi,zdj,zdk,reduceCtorEq,zdl,zdm,zdn,goInt,zdo,zdp,zdq,zdr,zds,zdt,zdu,zdv,zdw,zdx,zdy,zdz,zea,zeb,zec,zed,zdk,zee,zef,zeg,zeh,zei,zej,zek,zel,zem,zen,zeo,zep,zeq,zer,zes,zet,zeu,zev,zew,zex,zey,ya,yb,yc,yd,ye,yf,ts_int,ts_int64,ts_bool,ts_ints,ts_post,ts_posts,yg,yh,yi,yj,yk,yl,ym,ts_intsl,ts_int64s,ts_bools,ts_side,ts_sideb,ts_pints,ts_pbool,aPure,aLen,Ops_tl,Ops_app,Ops_app0,Ops_pp,Ops_pp0,List.append_eq,yBk,yB0,tB0,yB1,tB1,yB2,tB2,yB3,tB3,yB4,tB4,yB5,tB5,yB6,tB6,yB7,tB7,yB8,tB8,yB9,tB9,yB10,tB10,yB11,tB11,yB12,tB12,yB13,tB13,yB14,tB14,yB15,tB15,yB16,tB16,yB17,tB17,yB18,tB18,yB19,tB19,yB20,tB20,yB21,tB21,yB22,tB22,yB23,tB23,lx0A1,lx1A1,lx2A1,lx3A1,lx4A1,lx5A1,lx6A1,lx7A1,lx8A1,lx9A1,lx10A1,lx11A1,lx12A1,lx13A1,lx14A1,lx15A1,lx16A1,lx17A1,lx18A1,lx19A1,lx20A1,lx21A1,lx22A1,lx23A1]
  rw [CalF_cal (Kt_prim (by decide) _ _)]
  refine nilA10 _ _ ?_
  simp only [zfd,zaa,zab,zac,zad,zae,zaf,zag,zah,zai,zaj,zak,zal,zam,zan,zao,zap,zaq,zar,zas,zat,zau,zav,zaw,zax,zay,zaz,zba,aUn,zbb,zbc,zbd,zbe,zbf,zbg,zbh,zbi,zbj,zbk,zbl,zbm,zbn,flat,simple,zbo,zbp,zbq,zbr,zbs,zbt,zbu,zbv,zbw,zbx,zby,zbz,zca,zcb,zcc,zcd,zce,zcf,zcg,zch,zci,zcj,zck,zcl,zcm,zcn,zco,zcp,zcq,zcr,Nat.reduceEqDiff,Nat.reduceLT,Nat.reduceAdd,Nat.reduceSub,reduceIte,Kt_P,zcs,zct,zcu,zcv,zcw,zcx,zcy,zcz,zda,zdb,zdc,zdd,zde,zdf,zdg,zdh,zdi,zdj,zdk,reduceCtorEq,zdl,zdm,zdn,goInt,zdo,zdp,zdq,zdr,zds,zdt,zdu,zdv,zdw,zdx,zdy,zdz,zea,zeb,zec,zed,zdk,zee,zef,zeg,zeh,zei,zej,zek,zel,zem,zen,zeo,zep,zeq,zer,zes,zet,zeu,zev,zew,zex,zey,ya,yb,yc,yd,ye,yf,ts_int,ts_int64,ts_bool,ts_ints,ts_post,ts_posts,yg,yh,yi,yj,yk,yl,ym,ts_intsl,ts_int64s,ts_bools,ts_side,ts_sideb,ts_pints,ts_pbool,aPure,aLen,Ops_tl,Ops_app,Ops_app0,Ops_pp,Ops_pp0,List.append_eq,yBk,yB0,tB0,yB1,tB1,yB2,tB2,yB3,tB3,yB4,tB4,yB5,tB5,yB6,tB6,yB7,tB7,yB8,tB8,yB9,tB9,yB10,tB10,yB11,tB11,yB12,tB12,yB13,tB13,yB14,tB14,yB15,tB15,yB16,tB16,yB17,tB17,yB18,tB18,yB19,tB19,yB20,tB20,yB21,tB21,yB22,tB22,yB23,tB23,lx0A1,lx1A1,lx2A1,lx3A1,lx4A1,lx5A1,lx6A1,lx7A1,lx8A1,lx9A1,lx10A1,lx11A1,lx12A1,lx13A1,lx14A1,lx15A1,lx16A1,lx17A1,lx18A1,lx19A1,lx20A1,lx21A1,lx22A1,lx23A1]
  rw [CalF_cal (Kt_prim (by decide) _ _)]
  refine nilA11 _ _ ?_
  simp only [zfd,zaa,zab,zac,zad,zae,zaf,zag,zah,zai,zaj,zak,zal,zam,zan,zao,zap,zaq,zar,zas,zat,zau,zav,zaw,zax,zay,zaz,zba,aUn,zbb,zbc,zbd,zbe,zbf,zbg,zbh,zbi,zbj,zbk,zbl,zbm,zbn,flat,simple,zbo,zbp,zbq,zbr,zbs,zbt,zbu,zbv,zbw,zbx,zby,zbz,zca,zcb,zcc,zcd,zce,zcf,zcg,zch,zci,zcj,zck,zcl,zcm,zcn,zco,zcp,zcq,zcr,Nat.reduceEqDiff,Nat.reduceLT,Nat.reduceAdd,Nat.reduceSub,reduceIte,Kt_P,zcs,zct,zcu,zcv,zcw,zcx,zcy,zcz,zda,zdb,zdc,zdd,zde,zdf,zdg,zdh,zdi,zdj,zdk,reduceCtorEq,zdl,zdm,zdn,goInt,zdo,zdp,zdq,zdr,zds,zdt,zdu,zdv,zdw,zdx,zdy,zdz,zea,zeb,zec,zed,zdk,zee,zef,zeg,zeh,zei,zej,zek,zel,zem,zen,zeo,zep,zeq,zer,zes,zet,zeu,zev,zew,zex,zey,ya,yb,yc,yd,ye,yf,ts_int,ts_int64,ts_bool,ts_ints,ts_post,ts_posts,yg,yh,yi,yj,yk,yl,ym,ts_intsl,ts_int64s,ts_bools,ts_side,ts_sideb,ts_pints,ts_pbool,aPure,aLen,Ops_tl,Ops_app,Ops_app0,Ops_pp,Ops_pp0,List.append_eq,yBk,yB0,tB0,yB1,tB1,yB2,tB2,yB3,tB3,yB4,tB4,yB5,tB5,yB6,tB6,yB7,tB7,yB8,tB8,yB9,tB9,yB10,tB10,yB11,tB11,yB12,tB12,yB13,tB13,yB14,tB14,yB15,tB15,yB16,tB16,yB17,tB17,yB18,tB18,yB19,tB19,yB20,tB20,yB21,tB21,yB22,tB22,yB23,tB23,lx0A1,lx1A1,lx2A1,lx3A1,lx4A1,lx5A1,lx6A1,lx7A1,lx8A1,lx9A1,lx10A1,lx11A1,lx12A1,lx13A1,lx14A1,lx15A1,lx16A1,lx17A1,lx18A1,lx19A1,lx20A1,lx21A1,lx22A1,lx23A1]
  rw [CalF_cal (Kt_prim (by decide) _ _)]
  refine nilA12 _ _ ?_
  simp only [zfd,zaa,zab,zac,zad,zae,zaf,zag,zah,zai,zaj,zak,zal,zam,zan,zao,zap,zaq,zar,zas,zat,zau,zav,zaw,zax,zay,zaz,zba,aUn,zbb,zbc,zbd,zbe,zbf,zbg,zbh,zbi,zbj,zbk,zbl,zbm,zbn,flat,simple,zbo,zbp,zbq,zbr,zbs,zbt,zbu,zbv,zbw,zbx,zby,zbz,zca,zcb,zcc,zcd,zce,zcf,zcg,zch,zci,zcj,zck,zcl,zcm,zcn,zco,zcp,zcq,zcr,Nat.reduceEqDiff,Nat.reduceLT,Nat.reduceAdd,Nat.reduceSub,reduceIte,Kt_P,zcs,zct,zcu,zcv,zcw,zcx,zcy,zcz,zda,zdb,zdc,zdd,zde,zdf,zdg,zdh,zdi,zdj,zdk,reduceCtorEq,zdl,zdm,zdn,goInt,zdo,zdp,zdq,zdr,zds,zdt,zdu,zdv,zdw,zdx,zdy,zdz,zea,zeb,zec,zed,zdk,zee,zef,zeg,zeh,zei,zej,zek,zel,zem,zen,zeo,zep,zeq,zer,zes,zet,zeu,zev,zew,zex,zey,ya,yb,yc,yd,ye,yf,ts_int,ts_int64,ts_bool,ts_ints,ts_post,ts_posts,yg,yh,yi,yj,yk,yl,ym,ts_intsl,ts_int64s,ts_bools,ts_side,ts_sideb,ts_pints,ts_pbool,aPure,aLen,Ops_tl,Ops_app,Ops_app0,Ops_pp,Ops_pp0,List.append_eq,yBk,yB0,tB0,yB1,tB1,yB2,tB2,yB3,tB3,yB4,tB4,yB5,tB5,yB6,tB6,yB7,tB7,yB8,tB8,yB9,tB9,yB10,tB10,yB11,tB11,yB12,tB12,yB13,tB13,yB14,tB14,yB15,tB15,yB16,tB16,yB17,tB17,yB18,tB18,yB19,tB19,yB20,tB20,yB21,tB21,yB22,tB22,yB23,tB23,lx0A1,lx1A1,lx2A1,lx3A1,lx4A1,lx5A1,lx6A1,lx7A1,lx8A1,lx9A1,lx10A1,lx11A1,lx12A1,lx13A1,lx14A1,lx15A1,lx16A1,lx17A1,lx18A1,lx19A1,lx20A1,lx21A1,lx22A1,lx23A1]
  rw [CalF_cal (Kt_prim (by decide) _ _)]
  refine nilA13 _ _ ?_
  simp only [zfd,zaa,zab,zac,zad,zae,zaf,zag,zah,zai,zaj,zak,zal,zam,zan,zao,zap,zaq,zar,zas,zat,zau,zav,zaw,zax,zay,zaz,zba,aUn,zbb,zbc,zbd,zbe,zbf,zbg,zbh,zbi,zbj,zbk,zbl,zbm,zbn,flat,simple,zbo,zbp,zbq,zbr,zbs,zbt,zbu,zbv,zbw,zbx,zby,zbz,zca,zcb,zcc,zcd,zce,zcf,zcg,zch,zci,zcj,zck,zcl,zcm,zcn,zco,zcp,zcq,zcr,Nat.reduceEqDiff,Nat.reduceLT,Nat.reduceAdd,Nat.reduceSub,reduceIte,Kt_P,zcs,zct,zcu,zcv,zcw,zcx,zcy,zcz,zda,zdb,zdc,zdd,zde,zdf,zdg,zdh,zdi,zdj,zdk,reduceCtorEq,zdl,zdm,zdn,goInt,zdo,zdp,zdq,zdr,zds,zdt,zdu,zdv,zdw,zdx,zdy,zdz,zea,zeb,zec,zed,zdk,zee,zef,zeg,zeh,zei,zej,zek,zel,zem,zen,zeo,zep,zeq,zer,zes,zet,zeu,zev,zew,zex,zey,ya,yb,yc,yd,ye,yf,ts_int,ts_int64,ts_bool,ts_ints,ts_post,ts_posts,yg,yh,yi,yj,yk,yl,ym,ts_intsl,ts_int64s,ts_bools,ts_side,ts_sideb,ts_pints,ts_pbool,aPure,aLen,Ops_tl,Ops_app,Ops_app0,Ops_pp,Ops_pp0,List.append_eq,yBk,yB0,tB0,yB1,tB1,yB2,tB2,yB3,tB3,yB4,tB4,yB5,tB5,yB6,tB6,yB7,tB7,yB8,tB8,yB9,tB9,yB10,tB10,yB11,tB11,yB12,tB12,yB13,tB13,yB14,tB14,yB15,tB15,yB16,tB16,yB17,tB17,yB18,tB18,yB19,tB19,yB20,tB20,yB21,tB21,yB22,tB22,yB23,tB23,lx0A1,lx1A1,lx2A1,lx3A1,lx4A1,lx5A1,lx6A1,lx7A1,lx8A1,lx9A1,lx10A1,lx11A1,lx12A1,lx13A1,lx14A1,lx15A1,lx16A1,lx17A1,lx18A1,lx19A1,lx20A1,lx21A1,lx22A1,lx23A1]
  rw [CalF_cal (Kt_prim (by decide) _ _)]
  refine nilA14 _ _ ?_
  simp only [zfd,zaa,zab,zac,zad,zae,zaf,zag,zah,zai,zaj,zak,zal,zam,zan,zao,zap,zaq,zar,zas,zat,zau,zav,zaw,zax,zay,zaz,zba,aUn,zbb,zbc,zbd,zbe,zbf,zbg,zbh,zbi,zbj,zbk,zbl,zbm,zbn,flat,simple,zbo,zbp,zbq,zbr,zbs,zbt,zbu,zbv,zbw,zbx,zby,zbz,zca,zcb,zcc,zcd,zce,zcf,zcg,zch,zci,zcj,zck,zcl,zcm,zcn,zco,zcp,zcq,zcr,Nat.reduceEqDiff,Nat.reduceLT,Nat.reduceAdd,Nat.reduceSub,reduceIte,Kt_P,zcs,zct,zcu,zcv,zcw,zcx,zcy,zcz,zda,zdb,zdc,zdd,zde,zdf,zdg,zdh,zdi,zdj,zdk,reduceCtorEq,zdl,zdm,zdn,goInt,zdo,zdp,zdq,zdr,zds,zdt,zdu,zdv,zdw,zdx,zdy,zdz,zea,zeb,zec,zed,zdk,zee,zef,zeg,zeh,zei,zej,zek,zel,zem,zen,zeo,zep,zeq,zer,zes,zet,zeu,zev,zew,zex,zey,ya,yb,yc,yd,ye,yf,ts_int,ts_int64,ts_bool,ts_ints,ts_post,ts_posts,yg,yh,yi,yj,yk,yl,ym,ts_intsl,ts_int64s,ts_bools,ts_side,ts_sideb,ts_pints,ts_pbool,aPure,aLen,Ops_tl,Ops_app,Ops_app0,Ops_pp,Ops_pp0,List.append_eq,yBk,yB0,tB0,yB1,tB1,yB2,tB2,yB3,tB3,yB4,tB4,yB5,tB5,yB6,tB6,yB7,tB7,yB8,tB8,yB9,tB9,yB10,tB10,yB11,tB11,yB12,tB12,yB13,tB13,yB14,tB14,yB15,tB15,yB16,tB16,yB17,tB17,yB18,tB18,yB19,tB19,yB20,tB20,yB21,tB21,yB22,tB22,yB23,tB23,lx0A1,lx1A1,lx2A1,lx3A1,lx4A1,lx5A1,lx6A1,lx7A1,lx8A1,lx9A1,lx10A1,lx11A1,lx12A1,lx13A1,lx14A1,lx15A1,lx16A1,lx17A1,lx18A1,lx19A1,lx20A1,lx21A1,lx22A1,lx23A1]
  rw [CalF_cal (Kt_prim (by decide) _ _)]
  refine nilA15 _ _ ?_
  simp only [zfd,zaa,zab,zac,zad,zae,zaf,zag,zah,zai,zaj,zak,zal,zam,zan,zao,zap,zaq,zar,zas,zat,zau,zav,zaw,zax,zay,zaz,zba,aUn,zbb,zbc,zbd,zbe,zbf,zbg,zbh,zbi,zbj,zbk,zbl,zbm,zbn,flat,simple,zbo,zbp,zbq,zbr,zbs,zbt,zbu,zbv,zbw,zbx,zby,zbz,zca,zcb,zcc,zcd,zce,zcf,zcg,zch,zci,zcj,zck,zcl,zcm,zcn,zco,zcp,zcq,zcr,Nat.reduceEqDiff,Nat.reduceLT,Nat.reduceAdd,Nat.reduceSub,reduceIte,Kt_P,zcs,zct,zcu,zcv,zcw,zcx,zcy,zcz,zda,zdb,zdc,zdd,zde,zdf,zdg,zdh,zdi,zdj,zdk,reduceCtorEq,zdl,zdm,zdn,goInt,zdo,zdp,zdq,zdr,zds,zdt,zdu,zdv,zdw,zdx,zdy,zdz,zea,zeb,zec,zed,zdk,zee,zef,zeg,zeh,zei,zej,zek,zel,zem,zen,zeo,zep,zeq,zer,zes,zet,zeu,zev,zew,zex,zey,ya,yb,yc,yd,ye,yf,ts_int,ts_int64,ts_bool,ts_ints,ts_post,ts_posts,yg,yh,yi,yj,yk,yl,ym,ts_intsl,ts_int64s,ts_bools,ts_side,ts_sideb,ts_pints,ts_pbool,aPure,aLen,Ops_tl,Ops_app,Ops_app0,Ops_pp,Ops_pp0,List.append_eq,yBk,yB0,tB0,yB1,tB1,yB2,tB2,yB3,tB3,yB4,tB4,yB5,tB5,yB6,tB6,yB7,tB7,yB8,tB8,yB9,tB9,yB10,tB10,yB11,tB11,yB12,tB12,yB13,tB13,yB14,tB14,yB15,tB15,yB16,tB16,yB17,tB17,yB18,tB18,yB19,tB19,yB20,tB20,yB21,tB21,yB22,tB22,yB23,tB23,lx0A1,lx1A1,lx2A1,lx3A1,lx4A1,lx5A1,lx6A1,lx7A1,lx8A1,lx9A1,lx10A1,lx11A1,lx12A1,lx13A1,lx14A1,lx15A1,lx16A1,lx17A1,lx18A1,lx19A1,lx20A1,lx21A1,lx22A1,lx23A1]
  rw [CalF_cal (Kt_prim (by decide) _ _)]
  refine nilA16 _ _ ?_
  simp only [zfd,zaa,zab,zac,zad,zae,zaf,zag,zah,zai,zaj,zak,zal,zam,zan,zao,zap,zaq,zar,zas,zat,zau,zav,zaw,zax,zay,zaz,zba,aUn,zbb,zbc,zbd,zbe,zbf,zbg,zbh,zbi,zbj,zbk,zbl,zbm,zbn,flat,simple,zbo,zbp,zbq,zbr,zbs,zbt,zbu,zbv,zbw,zbx,zby,zbz,zca,zcb,zcc,zcd,zce,zcf,zcg,zch,zci,zcj,zck,zcl,zcm,zcn,zco,zcp,zcq,zcr,Nat.reduceEqDiff,Nat.reduceLT,Nat.reduceAdd,Nat.reduceSub,reduceIte,Kt_P,zcs,zct,zcu,zcv,zcw,zcx,zcy,zcz,zda,zdb,zdc,zdd,zde,zdf,zdg,zdh,zdi,zdj,zdk,reduceCtorEq,zdl,zdm,zdn,goInt,zdo,zdp,zdq,zdr,zds,zdt,zdu,zdv,zdw,zdx,zdy,zdz,zea,zeb,zec,zed,zdk,zee,zef,zeg,zeh,zei,zej,zek,zel,zem,zen,zeo,zep,zeq,zer,zes,zet,zeu,zev,zew,zex,zey,ya,yb,yc,yd,ye,yf,ts_int,ts_int64,ts_bool,ts_ints,ts_post,ts_posts,yg,yh,yi,yj,yk,yl,ym,ts_intsl,ts_int64s,ts_bools,ts_side,ts_sideb,ts_pints,ts_pbool,aPure,aLen,Ops_tl,Ops_app,Ops_app0,Ops_pp,Ops_pp0,List.append_eq,yBk,yB0,tB0,yB1,tB1,yB2,tB2,yB3,tB3,yB4,tB4,yB5,tB5,yB6,tB6,yB7,tB7,yB8,tB8,yB9,tB9,yB10,tB10,yB11,tB11,yB12,tB12,yB13,tB13,yB14,tB14,yB15,tB15,yB16,tB16,yB17,tB17,yB18,tB18,yB19,tB19,yB20,tB20,yB21,tB21,yB22,tB22,yB23,tB23,lx0A1,lx1A1,lx2A1,lx3A1,lx4A1,lx5A1,lx6A1,lx7A1,lx8A1,lx9A1,lx10A1,lx11A1,lx12A1,lx13A1,lx14A1,lx15A1,lx16A1,lx17A1,lx18A1,lx19A1,lx20A1,lx21A1,lx22A1,lx23A1]
  rw [CalF_cal (Kt_prim (by decide) _ _)]
  refine nilA17 _ _ ?_
  simp only [zfd,zaa,zab,zac,zad,zae,zaf,zag,zah,zai,zaj,zak,zal,zam,zan,zao,zap,zaq,zar,zas,zat,zau,zav,zaw,zax,zay,zaz,zba,aUn,zbb,zbc,zbd,zbe,zbf,zbg,zbh,zbi,zbj,zbk,zbl,zbm,zbn,flat,simple,zbo,zbp,zbq,zbr,zbs,zbt,zbu,zbv,zbw,zbx,zby,zbz,zca,zcb,zcc,zcd,zce,zcf,zcg,zch,zci,zcj,zck,zcl,zcm,zcn,zco,zcp,zcq,zcr,Nat.reduceEqDiff,Nat.reduceLT,Nat.reduceAdd,Nat.reduceSub,reduceIte,Kt_P,zcs,zct,zcu,zcv,zcw,zcx,zcy,zcz,zda,zdb,zdc,zdd,zde,zdf,zdg,zdh,zdi,zdj,zdk,reduceCtorEq,zdl,zdm,zdn,goInt,zdo,zdp,zdq,zdr,zds,zdt,zdu,zdv,zdw,zdx,zdy,zdz,zea,zeb,zec,zed,zdk,zee,zef,zeg,zeh,zei,zej,zek,zel,zem,zen,zeo,zep,zeq,zer,zes,zet,zeu,zev,zew,zex,zey,ya,yb,yc,yd,ye,yf,ts_int,ts_int64,ts_bool,ts_ints,ts_post,ts_posts,yg,yh,yi,yj,yk,yl,ym,ts_intsl,ts_int64s,ts_bools,ts_side,ts_sideb,ts_pints,ts_pbool,aPure,aLen,Ops_tl,Ops_app,Ops_app0,Ops_pp,Ops_pp0,List.append_eq,yBk,yB0,tB0,yB1,tB1,yB2,tB2,yB3,tB3,yB4,tB4,yB5,tB5,yB6,tB6,yB7,tB7,yB8,tB8,yB9,tB9,yB10,tB10,yB11,tB11,yB12,tB12,yB13,tB13,yB14,tB14,yB15,tB15,yB16,tB16,yB17,tB17,yB18,tB18,yB19,tB19,yB20,tB20,yB21,tB21,yB22,tB22,yB23,tB23,lx0A1,lx1A1,lx2A1,lx3A1,lx4A1,lx5A1,lx6A1,lx7A1,lx8A1,lx9A1,lx10A1,lx11A1,lx12A1,lx13A1,lx14A1,lx15A1,lx16A1,lx17A1,lx18A1,lx19A1,lx20A1,lx21A1,lx22A1,lx23A1]
  rw [CalF_cal (Kt_prim (by decide) _ _)]
  refine nilA18 _ _ ?_
  simp only [zfd,zaa,zab,zac,zad,zae,zaf,zag,zah,zai,zaj,zak,zal,zam,zan,zao,zap,zaq,zar,zas,zat,zau,zav,zaw,zax,zay,zaz,zba,aUn,zbb,zbc,zbd,zbe,zbf,zbg,zbh,zbi,zbj,zbk,zbl,zbm,zbn,flat,simple,zbo,zbp,zbq,zbr,zbs,zbt,zbu,zbv,zbw,zbx,zby,zbz,zca,zcb,zcc,zcd,zce,zcf,zcg,zch,zci,zcj,zck,zcl,zcm,zcn,zco,zcp,zcq,zcr,Nat.reduceEqDiff,Nat.reduceLT,Nat.reduceAdd,Nat.reduceSub,reduceIte,Kt_P,zcs,zct,zcu,zcv,zcw,zcx,zcy,zcz,zda,zdb,zdc,zdd,zde,zdf,zdg,zdh,zdi,zdj,zdk,reduceCtorEq,zdl,zdm,zdn,goInt,zdo,zdp,zdq,zdr,zds,zdt,zdu,zdv,zdw,zdx,zdy,zdz,zea,zeb,zec,zed,zdk,zee,zef,zeg,zeh,zei,zej,zek,zel,zem,zen,zeo,zep,zeq,zer,zes,zet,zeu,zev,zew,zex,zey,ya,yb,yc,yd,ye,yf,ts_int,ts_int64,ts_bool,ts_ints,ts_post,ts_posts,yg,yh,yi,yj,yk,yl,ym,ts_intsl,ts_int64s,ts_bools,ts_side,ts_sideb,ts_pints,ts_pbool,aPure,aLen,Ops_tl,Ops_app,Ops_app0,Ops_pp,Ops_pp0,List.append_eq,yBk,yB0,tB0,yB1,tB1,yB2,tB2,yB3,tB3,yB4,tB4,yB5,tB5,yB6,tB6,yB7,tB7,yB8,tB8,yB9,tB9,yB10,tB10,yB11,tB11,yB12,tB12,yB13,tB13,yB14,tB14,yB15,tB15,yB16,tB16,yB17,tB17,yB18,tB18,yB19,tB19,yB20,tB20,yB21,tB21,yB22,tB22,yB23,tB23,lx0A1,lx1A1,lx2A1,lx3A1,lx4A1,lx5A1,lx6A1,lx7A1,lx8A1,lx9A1,lx10A1,lx11A1,lx12A1,lx13A1,lx14A1,lx15A1,lx16A1,lx17A1,lx18A1,lx19A1,lx20A1,lx21A1,lx22A1,lx23A1]
  rw [CalF_cal (Kt_prim (by decide) _ _)]
  refine nilA19 _ _ ?_
  simp only [zfd,zaa,zab,zac,zad,zae,zaf,zag,zah,zai,zaj,zak,zal,zam,zan,zao,zap,zaq,zar,zas,zat,zau,zav,zaw,zax,zay,zaz,zba,aUn,zbb,zbc,zbd,zbe,zbf,zbg,zbh,zbi,zbj,zbk,zbl,zbm,zbn,flat,simple,zbo,zbp,zbq,zbr,zbs,zbt,zbu,zbv,zbw,zbx,zby,zbz,zca,zcb,zcc,zcd,zce,zcf,zcg,zch,zci,zcj,zck,zcl,zcm,zcn,zco,zcp,zcq,zcr,Nat.reduceEqDiff,Nat.reduceLT,Nat.reduceAdd,Nat.reduceSub,reduceIte,Kt_P,zcs,zct,zcu,zcv,zcw,zcx,zcy,zcz,zda,zdb,zdc,zdd,zde,zdf,zdg,zdh,zdi,zdj,zdk,reduceCtorEq,zdl,zdm,zdn,goInt,zdo,zdp,zdq,zdr,zds,zdt,zdu,zdv,zdw,zdx,zdy,zdz,zea,zeb,zec,zed,zdk,zee,zef,zeg,zeh,zei,zej,zek,zel,zem,zen,zeo,zep,zeq,zer,zes,zet,zeu,zev,zew,zex,zey,ya,yb,yc,yd,ye,yf,ts_int,ts_int64,ts_bool,ts_ints,ts_post,ts_posts,yg,yh,yi,yj,yk,yl,ym,ts_intsl,ts_int64s,ts_bools,ts_side,ts_sideb,ts_pints,ts_pbool,aPure,aLen,Ops_tl,Ops_app,Ops_app0,Ops_pp,Ops_pp0,List.append_eq,yBk,yB0,tB0,yB1,tB1,yB2,tB2,yB3,tB3,yB4,tB4,yB5,tB5,yB6,tB6,yB7,tB7,yB8,tB8,yB9,tB9,yB10,tB10,yB11,tB11,yB12,tB12,yB13,tB13,yB14,tB14,yB15,tB15,yB16,tB16,yB17,tB17,yB18,tB18,yB19,tB19,yB20,tB20,yB21,tB21,yB22,tB22,yB23,tB23,lx0A1,lx1A1,lx2A1,lx3A1,lx4A1,lx5A1,lx6A1,lx7A1,lx8A1,lx9A1,lx10A1,lx11A1,lx12A1,lx13A1,lx14A1,lx15A1,lx16A1,lx17A1,lx18A1,lx19A1,lx20A1,lx21A1,lx22A1,lx23A1]
  rw [CalF_cal (Kt_prim (by decide) _ _)]
  refine nilA20 _ _ ?_
  obtain ⟨op, hp⟩ := h.pa.at
  subst hp
  simp only [zfd,zaa,zab,zac,zad,zae,zaf,zag,zah,zai,zaj,zak,zal,zam,zan,zao,zap,zaq,zar,zas,zat,zau,zav,zaw,zax,zay,zaz,zba,aUn,zbb,zbc,zbd,zbe,zbf,zbg,zbh,zbi,zbj,zbk,zbl,zbm,zbn,flat,simple,zbo,zbp,zbq,zbr,zbs,zbt,zbu,zbv,zbw,zbx,zby,zbz,zca,zcb,zcc,zcd,zce,zcf,zcg,zch,zci,zcj,zck,zcl,zcm,zcn,zco,zcp,zcq,zcr,Nat.reduceEqDiff,Nat.reduceLT,Nat.reduceAdd,Nat.reduceSub,reduceIte,Kt_P,zcs,zct,zcu,zcv,zcw,zcx,zcy,zcz,zda,zdb,zdc,zdd,zde,zdf,zdg,zdh,zdi,zdj,zdk,reduceCtorEq,zdl,zdm,zdn,goInt,zdo,zdp,zdq,zdr,zds,zdt,zdu,zdv,zdw,zdx,zdy,zdz,zea,zeb,zec,zed,zdk,zee,zef,zeg,zeh,zei,zej,zek,zel,zem,zen,zeo,zep,zeq,zer,zes,zet,zeu,zev,zew,zex,zey,ya,yb,yc,yd,ye,yf,ts_int,ts_int64,ts_bool,ts_ints,ts_post,ts_posts,yg,yh,yi,yj,yk,yl,ym,ts_intsl,ts_int64s,ts_bools,ts_side,ts_sideb,ts_pints,ts_pbool,aPure,aLen,Ops_tl,Ops_app,Ops_app0,Ops_pp,Ops_pp0,List.append_eq,yBk,yB0,tB0,yB1,tB1,yB2,tB2,yB3,tB3,yB4,tB4,yB5,tB5,yB6,tB6,yB7,tB7,yB8,tB8,yB9,tB9,yB10,tB10,yB11,tB11,yB12,tB12,yB13,tB13,yB14,tB14,yB15,tB15,yB16,tB16,yB17,tB17,yB18,tB18,yB19,tB19,yB20,tB20,yB21,tB21,yB22,tB22,yB23,tB23,lx0A1,lx1A1,lx2A1,lx3A1,lx4A1,lx5A1,lx6A1,lx7A1,lx8A1,lx9A1,lx10A1,lx11A1,lx12A1,lx13A1,lx14A1,lx15A1,lx16A1,lx17A1,lx18A1,lx19A1,lx20A1,lx21A1,lx22A1,lx23A1]
  rw [CalF_cal (Kt_prim (by decide) _ _)]
  refine Cal_ch Kt_ch hP1.ch ?_
  refine apartP_ok A0 A1 _ ws n' c' hP1 _ fun A2 hn2 ho2 hk2 hch2 => ?_
  have hb2 := hk2.box hn2 hb1 fun hw => by
    obtain ⟨u, hu, hb⟩ := hw
    obtain ⟨j, hj, rfl⟩ := List.getElem_of_mem hu
    obtain ⟨r, _, _, h3, h4, h5, _⟩ := (hP1.own j hj).row hb
    rw [hb1.2] at h3
    cases h3
    cases h5
  have lx0A2 := hb2.load (P := Tryz.prog) (o := 0) (t := 30) Tryz.underlying30 rfl rfl
  have lx1A2 := hb2.load (P := Tryz.prog) (o := 1) (t := 31) Tryz.underlying31 rfl rfl
  have lx2A2 := hb2.load (P := Tryz.prog) (o := 2) (t := 32) Tryz.underlying32 rfl rfl
  have lx3A2 := hb2.load (P := Tryz.prog) (o := 3) (t := 33) Tryz.underlying33 rfl rfl
  have lx4A2 := hb2.load (P := Tryz.prog) (o := 4) (t := 34) Tryz.underlying34 rfl rfl
  have lx5A2 := hb2.load (P := Tryz.prog) (o := 5) (t := 35) Tryz.underlying35 rfl rfl
  have lx6A2 := hb2.load (P := Tryz.prog) (o := 6) (t := 36) Tryz.underlying36 rfl rfl
  have lx7A2 := hb2.load (P := Tryz.prog) (o := 7) (t := 37) Tryz.underlying37 rfl rfl
  have lx8A2 := hb2.load (P := Tryz.prog) (o := 8) (t := 38) Tryz.underlying38 rfl rfl
  have lx9A2 := hb2.load (P := Tryz.prog) (o := 9) (t := 39) Tryz.underlying39 rfl rfl
  have lx10A2 := hb2.load (P := Tryz.prog) (o := 10) (t := 40) Tryz.underlying40 rfl rfl
  have lx11A2 := hb2.load (P := Tryz.prog) (o := 11) (t := 41) Tryz.underlying41 rfl rfl
  have lx12A2 := hb2.load (P := Tryz.prog) (o := 12) (t := 42) Tryz.underlying42 rfl rfl
  have lx13A2 := hb2.load (P := Tryz.prog) (o := 13) (t := 43) Tryz.underlying43 rfl rfl
  have lx14A2 := hb2.load (P := Tryz.prog) (o := 14) (t := 44) Tryz.underlying44 rfl rfl
  have lx15A2 := hb2.load (P := Tryz.prog) (o := 15) (t := 45) Tryz.underlying45 rfl rfl
  have lx16A2 := hb2.load (P := Tryz.prog) (o := 16) (t := 46) Tryz.underlying46 rfl rfl
  have lx17A2 := hb2.load (P := Tryz.prog) (o := 17) (t := 47) Tryz.underlying47 rfl rfl
  have lx18A2 := hb2.load (P := Tryz.prog) (o := 18) (t := 48) Tryz.underlying48 rfl rfl
  have lx19A2 := hb2.load (P := Tryz.prog) (o := 19) (t := 49) Tryz.underlying49 rfl rfl
  have lx20A2 := hb2.load (P := Tryz.prog) (o := 20) (t := 50) Tryz.underlying50 rfl rfl
  have lx21A2 := hb2.load (P := Tryz.prog) (o := 21) (t := 51) Tryz.underlying51 rfl rfl
  have lx22A2 := hb2.load (P := Tryz.prog) (o := 22) (t := 52) Tryz.underlying52 rfl rfl
  have lx23A2 := hb2.load (P := Tryz.prog) (o := 23) (t := 53) Tryz.underlying53 rfl rfl
  simp only [zfd,zaa,zab,zac,zad,zae,zaf,zag,zah,zai,zaj,zak,zal,zam,zan,zao,zap,zaq,zar,zas,zat,zau,zav,zaw,zax,zay,zaz,zba,aUn,zbb,zbc,zbd,zbe,zbf,zbg,zbh,zbi,zbj,zbk,zbl,zbm,zbn,flat,simple,zbo,zbp,zbq,zbr,zbs,zbt,zbu,zbv,zbw,zbx,zby,zbz,zca,zcb,zcc,zcd,zce,zcf,zcg,zch,zci,zcj,zck,zcl,zcm,zcn,zco,zcp,zcq,zcr,Nat.reduceEqDiff,Nat.reduceLT,Nat.reduceAdd,Nat.reduceSub,reduceIte,Kt_P,zcs,zct,zcu,zcv,zcw,zcx,zcy,zcz,zda,zdb,zdc,zdd,zde,zdf,zdg,zdh,zdi,zdj,zdk,reduceCtorEq,zdl,zdm,zdn,goInt,zdo,zdp,zdq,zdr,zds,zdt,zdu,zdv,zdw,zdx,zdy,zdz,zea,zeb,zec,zed,zdk,zee,zef,zeg,zeh,zei,zej,zek,zel,zem,zen,zeo,zep,zeq,zer,zes,zet,zeu,zev,zew,zex,zey,ya,yb,yc,yd,ye,yf,ts_int,ts_int64,ts_bool,ts_ints,ts_post,ts_posts,yg,yh,yi,yj,yk,yl,ym,ts_intsl,ts_int64s,ts_bools,ts_side,ts_sideb,ts_pints,ts_pbool,aPure,aLen,Ops_tl,Ops_app,Ops_app0,Ops_pp,Ops_pp0,List.append_eq,yBk,yB0,tB0,yB1,tB1,yB2,tB2,yB3,tB3,yB4,tB4,yB5,tB5,yB6,tB6,yB7,tB7,yB8,tB8,yB9,tB9,yB10,tB10,yB11,tB11,yB12,tB12,yB13,tB13,yB14,tB14,yB15,tB15,yB16,tB16,yB17,tB17,yB18,tB18,yB19,tB19,yB20,tB20,yB21,tB21,yB22,tB22,yB23,tB23,lx0A2,lx1A2,lx2A2,lx3A2,lx4A2,lx5A2,lx6A2,lx7A2,lx8A2,lx9A2,lx10A2,lx11A2,lx12A2,lx13A2,lx14A2,lx15A2,lx16A2,lx17A2,lx18A2,lx19A2,lx20A2,lx21A2,lx22A2,lx23A2]
  rw [CalF_cal (Kt_prim (by decide) _ _)]
  refine nilA22 _ _ ?_
  simp only [zfd,zaa,zab,zac,zad,zae,zaf,zag,zah,zai,zaj,zak,zal,zam,zan,zao,zap,zaq,zar,zas,zat,zau,zav,zaw,zax,zay,zaz,zba,aUn,zbb,zbc,zbd,zbe,zbf,zbg,zbh,zbi,zbj,zbk,zbl,zbm,zbn,flat,simple,zbo,zbp,zbq,zbr,zbs,zbt,zbu,zbv,zbw,zbx,zby,zbz,zca,zcb,zcc,zcd,zce,zcf,zcg,zch,zci,zcj,zck,zcl,zcm,zcn,zco,zcp,zcq,zcr,Nat.reduceEqDiff,Nat.reduceLT,Nat.reduceAdd,Nat.reduceSub,reduceIte,Kt_P,zcs,zct,zcu,zcv,zcw,zcx,zcy,zcz,zda,zdb,zdc,zdd,zde,zdf,zdg,zdh,zdi,zdj,zdk,reduceCtorEq,zdl,zdm,zdn,goInt,zdo,zdp,zdq,zdr,zds,zdt,zdu,zdv,zdw,zdx,zdy,zdz,zea,zeb,zec,zed,zdk,zee,zef,zeg,zeh,zei,zej,zek,zel,zem,zen,zeo,zep,zeq,zer,zes,zet,zeu,zev,zew,zex,zey,ya,yb,yc,yd,ye,yf,ts_int,ts_int64,ts_bool,ts_ints,ts_post,ts_posts,yg,yh,yi,yj,yk,yl,ym,ts_intsl,ts_int64s,ts_bools,ts_side,ts_sideb,ts_pints,ts_pbool,aPure,aLen,Ops_tl,Ops_app,Ops_app0,Ops_pp,Ops_pp0,List.append_eq,yBk,yB0,tB0,yB1,tB1,yB2,tB2,yB3,tB3,yB4,tB4,yB5,tB5,yB6,tB6,yB7,tB7,yB8,tB8,yB9,tB9,yB10,tB10,yB11,tB11,yB12,tB12,yB13,tB13,yB14,tB14,yB15,tB15,yB16,tB16,yB17,tB17,yB18,tB18,yB19,tB19,yB20,tB20,yB21,tB21,yB22,tB22,yB23,tB23,lx0A2,lx1A2,lx2A2,lx3A2,lx4A2,lx5A2,lx6A2,lx7A2,lx8A2,lx9A2,lx10A2,lx11A2,lx12A2,lx13A2,lx14A2,lx15A2,lx16A2,lx17A2,lx18A2,lx19A2,lx20A2,lx21A2,lx22A2,lx23A2]
  rw [CalF_cal (Kt_prim (by decide) _ _)]
  refine nilA23 _ _ ?_
  simp only [zfd,zaa,zab,zac,zad,zae,zaf,zag,zah,zai,zaj,zak,zal,zam,zan,zao,zap,zaq,zar,zas,zat,zau,zav,zaw,zax,zay,zaz,zba,aUn,zbb,zbc,zbd,zbe,zbf,zbg,zbh,zbi,zbj,zbk,zbl,zbm,zbn,flat,simple,zbo,zbp,zbq,zbr,zbs,zbt,zbu,zbv,zbw,zbx,zby,zbz,zca,zcb,zcc,zcd,zce,zcf,zcg,zch,zci,zcj,zck,zcl,zcm,zcn,zco,zcp,zcq,zcr,Nat.reduceEqDiff,Nat.reduceLT,Nat.reduceAdd,Nat.reduceSub,reduceIte,Kt_P,zcs,zct,zcu,zcv,zcw,zcx,zcy,zcz,zda,zdb,zdc,zdd,zde,zdf,zdg,zdh,zdi,zdj,zdk,reduceCtorEq,zdl,zdm,zdn,goInt,zdo,zdp,zdq,zdr,zds,zdt,zdu,zdv,zdw,zdx,zdy,zdz,zea,zeb,zec,zed,zdk,zee,zef,zeg,zeh,zei,zej,zek,zel,zem,zen,zeo,zep,zeq,zer,zes,zet,zeu,zev,zew,zex,zey,ya,yb,yc,yd,ye,yf,ts_int,ts_int64,ts_bool,ts_ints,ts_post,ts_posts,yg,yh,yi,yj,yk,yl,ym,ts_intsl,ts_int64s,ts_bools,ts_side,ts_sideb,ts_pints,ts_pbool,aPure,aLen,Ops_tl,Ops_app,Ops_app0,Ops_pp,Ops_pp0,List.append_eq,yBk,yB0,tB0,yB1,tB1,yB2,tB2,yB3,tB3,yB4,tB4,yB5,tB5,yB6,tB6,yB7,tB7,yB8,tB8,yB9,tB9,yB10,tB10,yB11,tB11,yB12,tB12,yB13,tB13,yB14,tB14,yB15,tB15,yB16,tB16,yB17,tB17,yB18,tB18,yB19,tB19,yB20,tB20,yB21,tB21,yB22,tB22,yB23,tB23,lx0A2,lx1A2,lx2A2,lx3A2,lx4A2,lx5A2,lx6A2,lx7A2,lx8A2,lx9A2,lx10A2,lx11A2,lx12A2,lx13A2,lx14A2,lx15A2,lx16A2,lx17A2,lx18A2,lx19A2,lx20A2,lx21A2,lx22A2,lx23A2]
  exact hq A2
end Go.Sh
