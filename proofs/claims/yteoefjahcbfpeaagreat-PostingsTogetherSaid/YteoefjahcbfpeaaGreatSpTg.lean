/- The law of two lists. -/
import Derived.Test.YteoefjahcbfpeaaGreatSpTl
import Derived.Test.YteoefjahcbfpeaaGreatSpRh
import Derived.Test.YteoefjahcbfpeaaGreatSpKp
import Derived.Test.YteoefjahcbfpeaaGreatSpI
namespace Go.Sh
open Go Go.Proofs
set_option linter.unusedSimpArgs false
set_option linter.unusedVariables false
set_option maxRecDepth 8000
set_option maxHeartbeats 4000000

theorem fn_ptog : Kt.funcs 3 = some Tryz.f3 := by kernel_rfl
theorem y25 : type_of% Tryz.underlying25 := Tryz.underlying25
theorem y29 : type_of% Tryz.underlying29 := Tryz.underlying29
theorem ts_25 : tsize Tryz.prog 25 = some 10 := by kernel_rfl
theorem ts_29 : tsize Tryz.prog 29 = some 5 := by kernel_rfl
theorem ts_bk : tsize Tryz.prog 55 = some 24 := by kernel_rfl
theorem tz_25 : tzero Tryz.prog 25 = some (.agg (List.replicate 10 nilS).toArray) := by kernel_rfl
theorem tz_29 : tzero Tryz.prog 29 = some (.agg (List.replicate 5 nilS).toArray) := by kernel_rfl
theorem tz_bk : tzero Tryz.prog 55 = some (.agg (bookCells nilS nilS).toArray) := by kernel_rfl
theorem LPosts.low {W : Nat → Prop} {A : AHeap} {v : Value} {l : List PostL} {vs : List Value} (h : LPosts W A v l vs) : LPosts (fun b => b < A.next) A v l vs := by
  obtain ⟨b, h1, ⟨k1, k2, k3, k4, k5⟩, h3⟩ := h
  refine ⟨b, h1, ⟨k1, k2, fun x hx => k2.lt x hx, fun i hi hi' => ?_, k5⟩, h3⟩
  obtain ⟨g1, g2, g3⟩ := k4 i hi hi'
  exact ⟨g1.mono fun x hx _ => (g1.lt x hx).1, g2, g3⟩

/-- What has been got so far. -/
structure Got (A0 A2 : AHeap) (a b : List PostL) (gap : Int) (ab : List It) (g : Nat) (its : List It) (H : AHeap) : Prop where
  ch : ChOK A0 H
  le : A0.next ≤ A2.next
  fr : Fr (fun x => A2.next ≤ x) A2 H
  col : Col A0.next H (ab ++ its)
  box : Box H g 25 (its.map (·.v) ++ List.replicate (10 - its.length) nilS)
  gb : A2.next ≤ g
  rd : ∀ i (h : i < its.length), PRd H its[i].v ((resL a b gap (i % 5)).map (·.1)) its[i].us ∧ Posts H its[i].v (resL a b gap (i % 5)) ∧ its[i].us.length = (resL a b gap (i % 5)).length
  bd : ∀ i, (resL a b gap i).length ≤ 8192 ∧ ∀ p ∈ resL a b gap i, p.2.length ≤ 8192
theorem Got.step {A0 A2 : AHeap} {a b : List PostL} {gap : Int} {ab : List It} {g : Nat} {its : List It} {H H1 H2 : AHeap} (h : Got A0 A2 a b gap ab g its H) (hl : its.length < 10) (hE : Ext H H1) {v : Value} (hr : PRes H H1 v (resL a b gap (its.length % 5))) (hF : Fr (fun x => x = g) H1 H2)
    (hB : Box H2 g 25 (lputs (its.map (·.v) ++ List.replicate (10 - its.length) nilS) its.length [v])) (hch : ChOK A0 H2) : ∃ us, Got A0 A2 a b gap ab g (its ++ [⟨v, us⟩]) H2 := by
  have hfr := h.fr.next
  have hle := h.le
  obtain ⟨us, h1, h2, h3⟩ := h.col.res hE (by omega) hr fun p hp => by have := (h.bd _).2 p hp; omega
  have hg1 : Box H1 g 25 (its.map (·.v) ++ List.replicate (10 - its.length) nilS) := hE.box h.box fun h => h
  have hgb := h.gb
  refine ⟨us, hch, h.le, Fr.trans (Fr.trans h.fr hE fun _ _ h => h.elim) hF fun x hx hc => by omega, ?_, ?_, h.gb, fun i hi => ?_, h.bd⟩
  · rw [← List.append_assoc]
    exact h1.fr hF fun x _ hx => by subst hx; exact ⟨_, _, hg1⟩
  · have e1 : lputs (its.map (·.v) ++ List.replicate (10 - its.length) nilS) its.length [v] = (its ++ [(⟨v, us⟩ : It)]).map (·.v) ++ List.replicate (10 - (its ++ [(⟨v, us⟩ : It)]).length) nilS := by
      have hl2 : 10 - its.length = (10 - (its.length + 1)) + 1 := by omega
      apply List.ext_getElem?
      intro q
      have hfit : its.length + [v].length ≤ (its.map (·.v) ++ List.replicate (10 - its.length) nilS).length := by simp; omega
      rw [lputs_at _ _ _ hfit, List.map_append, List.length_append]
      simp only [List.length_singleton,List.map_cons,List.map_nil]
      by_cases hq : q = its.length
      · subst hq
        rw [if_pos (by omega), List.getElem?_append_left (by simp), List.getElem?_append_right (by simp)]
        simp
      · rw [if_neg (by omega)]
        by_cases hq2 : q < its.length
        · rw [List.getElem?_append_left (by simpa using hq2), List.getElem?_append_left (by simp; omega), List.getElem?_append_left (by simpa using hq2)]
        · rw [List.getElem?_append_right (by simp; omega), List.getElem?_append_right (by simp; omega)]
          simp only [List.length_map,List.length_append,List.length_singleton,List.getElem?_replicate]
          by_cases hq3 : q < 10
          · rw [if_pos (by omega), if_pos (by omega)]
          · rw [if_neg (by omega), if_neg (by omega)]
    rw [← e1]
    exact hB
  · by_cases hi2 : i < its.length
    · rw [List.getElem_append_left hi2]
      obtain ⟨k1, k2, k3⟩ := h.rd i hi2
      exact ⟨(k1.dk hE.dat).dk hF.dat, (k2.fr hE).fr hF, k3⟩
    · have hi3 : i = its.length := by simp at hi; omega
      subst hi3
      rw [List.getElem_append_right (Nat.le_refl _)]
      simp only [Nat.sub_self,List.getElem_singleton]
      exact ⟨h2.dk hF.dat, hr.posts.fr hF, h3⟩
theorem Got.step' {A0 A2 : AHeap} {a b : List PostL} {gap : Int} {ab : List It} {g : Nat} {its : List It} {H H1 H2 : AHeap} (h : Got A0 A2 a b gap ab g its H) (hl : its.length < 10) (hE : Ext H H1) {v : Value} (hr : PRes H H1 v (resL a b gap (its.length % 5))) (hF : Fr (fun x => x = g) H1 H2)
    (hB : Box H2 g 25 (lputs (its.map (·.v) ++ List.replicate (10 - its.length) nilS) its.length [v])) (hch : ChOK A0 H2) : ∃ its', its'.length = its.length + 1 ∧ Got A0 A2 a b gap ab g its' H2 := by
  obtain ⟨us, h1⟩ := h.step hl hE hr hF hB hch
  exact ⟨_, by simp, h1⟩
open Classical in
theorem PRes.r0 {A0 A : AHeap} {v : Value} {a b : List PostL} {gap : Int} (h1 : wfs a ∧ wfs b → PRes A0 A v (keptL (fun _ _ => true) a b)) (h2 : ¬ (wfs a ∧ wfs b) → PRes A0 A v []) : PRes A0 A v (resL a b gap 0) := PRes.ite h1 h2
open Classical in
theorem PRes.r1 {A0 A : AHeap} {v : Value} {a b : List PostL} {gap : Int} (h1 : wfs a ∧ wfs b → PRes A0 A v (keptL (fun x y => x && y) a b)) (h2 : ¬ (wfs a ∧ wfs b) → PRes A0 A v []) : PRes A0 A v (resL a b gap 1) := PRes.ite h1 h2
open Classical in
theorem PRes.r2 {A0 A : AHeap} {v : Value} {a b : List PostL} {gap : Int} (h1 : wfs a ∧ wfs b → PRes A0 A v (keptL (fun _ y => !y) a b)) (h2 : ¬ (wfs a ∧ wfs b) → PRes A0 A v []) : PRes A0 A v (resL a b gap 2) := PRes.ite h1 h2
open Classical in
theorem PRes.r3 {A0 A : AHeap} {v : Value} {a b : List PostL} {gap : Int} (h1 : wfs b ∧ wfs a → PRes A0 A v (keptL (fun _ y => !y) b a)) (h2 : ¬ (wfs b ∧ wfs a) → PRes A0 A v []) : PRes A0 A v (resL a b gap 3) := PRes.ite h1 h2
open Classical in
theorem PRes.r4 {A0 A : AHeap} {v : Value} {a b : List PostL} {gap : Int} (h1 : wfs a ∧ wfs b → PRes A0 A v (followL gap a b)) (h2 : ¬ (wfs a ∧ wfs b) → PRes A0 A v []) : PRes A0 A v (resL a b gap 4) := PRes.ite h1 h2
theorem Got.move {A0 A2 : AHeap} {a b : List PostL} {gap : Int} {ab : List It} {g : Nat} {its : List It} {H H1 : AHeap} {M : Nat → Prop} (h : Got A0 A2 a b gap ab g its H) (hF : Fr M H H1) (hM : ∀ x, M x → A2.next ≤ x ∧ x ≠ g) (hM2 : ∀ x, x < H.next → M x → ∃ t cells, Box H x t cells) (hch : ChOK A0 H1) : Got A0 A2 a b gap ab g its H1 :=
  ⟨hch, h.le, Fr.trans h.fr hF fun x hx hm => (hM x hm).1, h.col.fr hF hM2, hF.box h.box fun hm => (hM g hm).2 rfl, h.gb, fun i hi => by
    obtain ⟨k1, k2, k3⟩ := h.rd i hi
    exact ⟨k1.dk hF.dat, k2.fr hF, k3⟩, h.bd⟩
theorem Got.ext {A0 A2 : AHeap} {a b : List PostL} {gap : Int} {ab : List It} {g : Nat} {its : List It} {H H1 : AHeap} (h : Got A0 A2 a b gap ab g its H) (hE : Ext H H1) (hch : ChOK A0 H1) : Got A0 A2 a b gap ab g its H1 :=
  h.move hE (fun _ h => h.elim) (fun _ _ h => h.elim) hch

theorem build_5 (o0 o1 o2 o3 o4 : Option Addr) (n0 n1 n2 n3 n4 c0 c1 c2 c3 c4 : Nat) : aBuild Tryz.prog 29 [(0, .slice o0 n0 c0), (1, .slice o1 n1 c1), (2, .slice o2 n2 c2), (3, .slice o3 n3 c3), (4, .slice o4 n4 c4)] =
    some (.agg #[.slice o0 n0 c0, .slice o1 n1 c1, .slice o2 n2 c2, .slice o3 n3 c3, .slice o4 n4 c4]) := by kernel_rfl
theorem us_bound {N : Nat} : ∀ (l : List It), (∀ t ∈ l, t.us.length ≤ N) → (l.flatMap (·.us)).length ≤ l.length * N
  | [], _ => by simp
  | t :: l, h => by
    have h1 := us_bound l fun s hs => h s (List.mem_cons_of_mem _ hs)
    have h2 := h t List.mem_cons_self
    rw [List.flatMap_cons, List.length_append, List.length_cons, Nat.succ_mul]
    omega
theorem opened_slice {A : AHeap} {v : Value} {l : List PostL} (h : Posts A v l) : ∃ o c, v = .slice o l.length c := by
  obtain ⟨o, c, h1, _⟩ := h.opened
  exact ⟨o, c, h1⟩
theorem big {l : List PostL} (h : ∀ p ∈ l, p.2.length ≤ 4096) : ∀ p ∈ l, p.2.length ≤ 1000000 := fun p hp => by have := h p hp; omega
theorem ptog_ok (A : AHeap) (v1 v2 : Value) (l m : List PostL) (gap : Int) (hg : inI64 gap) (h1 : Posts A v1 l) (h2 : Posts A v2 m) (hp1 : ∀ p ∈ l, p.2.length ≤ 100000000000000) (hp2 : ∀ p ∈ m, p.2.length ≤ 100000000000000) (hch : ChOK A A) (Q : Value → AHeap → Prop)
    (hq : ∀ A', Q (.bool true) A') : Cal Kt 3 #[v1, v2, .int .i64 gap] A Q := by
  refine Cal_of (nt := 117) (rs := [.tmp 6]) fn_ptog rfl rfl rfl (Nat.le_of_ble_eq_true rfl) ?_
  simp only [zfd,zaa,zab,zac,zad,zae,zaf,zag,zah,zai,zaj,zak,zal,zam,zan,zao,zap,zaq,zar,zas,zat,zau,zav,zaw,zax,zay,zaz,zba,aUn,zbb,zbc,zbd,zbe,zbf,zbg,zbh,zbi,zbj,zbk,zbl,zbm,zbn,flat,simple,zbo,zbp,zbq,zbr,zbs,zbt,zbu,zbv,zbw,zbx,zby,zbz,zca,zcb,zcc,zcd,zce,zcf,zcg,zch,zci,zcj,zck,zcl,zcm,zcn,zco,zcp,zcq,zcr,Nat.reduceEqDiff,Nat.reduceLT,Nat.reduceAdd,Nat.reduceSub,reduceIte,Kt_P,zcs,zct,zcu,zcv,zcw,zcx,zcy,zcz,zda,zdb,zdc,zdd,zde,zdf,zdg,zdh,zdi,zdj,zdk,reduceCtorEq,zdl,zdm,zdn,goInt,zdo,zdp,zdq,zdr,zds,zdt,zdu,zdv,zdw,zdx,zdy,zdz,zea,zeb,zec,zed,zdk,zee,zef,zeg,zeh,zei,zej,zek,zel,zem,zen,zeo,zep,zeq,zer,zes,zet,zeu,zev,zew,zex,zey,ya,yb,yc,yd,ye,yf,ts_int,ts_int64,ts_bool,ts_ints,ts_post,ts_posts,yg,yh,yi,yj,yk,yl,ym,ts_intsl,ts_int64s,ts_bools,ts_side,ts_sideb,ts_pints,ts_pbool,aPure,aLen]
  rw [CalF_cal (Kt_prim (by decide) _ _)]
  refine few_ok A v1 l h1 hp1 _ fun b1 hb1 => ?_
  cases b1 with
  | false => 
    simp only [zfd,zaa,zab,zac,zad,zae,zaf,zag,zah,zai,zaj,zak,zal,zam,zan,zao,zap,zaq,zar,zas,zat,zau,zav,zaw,zax,zay,zaz,zba,aUn,zbb,zbc,zbd,zbe,zbf,zbg,zbh,zbi,zbj,zbk,zbl,zbm,zbn,flat,simple,zbo,zbp,zbq,zbr,zbs,zbt,zbu,zbv,zbw,zbx,zby,zbz,zca,zcb,zcc,zcd,zce,zcf,zcg,zch,zci,zcj,zck,zcl,zcm,zcn,zco,zcp,zcq,zcr,Nat.reduceEqDiff,Nat.reduceLT,Nat.reduceAdd,Nat.reduceSub,reduceIte,Kt_P,zcs,zct,zcu,zcv,zcw,zcx,zcy,zcz,zda,zdb,zdc,zdd,zde,zdf,zdg,zdh,zdi,zdj,zdk,reduceCtorEq,zdl,zdm,zdn,goInt,zdo,zdp,zdq,zdr,zds,zdt,zdu,zdv,zdw,zdx,zdy,zdz,zea,zeb,zec,zed,zdk,zee,zef,zeg,zeh,zei,zej,zek,zel,zem,zen,zeo,zep,zeq,zer,zes,zet,zeu,zev,zew,zex,zey,ya,yb,yc,yd,ye,yf,ts_int,ts_int64,ts_bool,ts_ints,ts_post,ts_posts,yg,yh,yi,yj,yk,yl,ym,ts_intsl,ts_int64s,ts_bools,ts_side,ts_sideb,ts_pints,ts_pbool,aPure,aLen]
    exact hq _
  | true =>
  simp only [zfd,zaa,zab,zac,zad,zae,zaf,zag,zah,zai,zaj,zak,zal,zam,zan,zao,zap,zaq,zar,zas,zat,zau,zav,zaw,zax,zay,zaz,zba,aUn,zbb,zbc,zbd,zbe,zbf,zbg,zbh,zbi,zbj,zbk,zbl,zbm,zbn,flat,simple,zbo,zbp,zbq,zbr,zbs,zbt,zbu,zbv,zbw,zbx,zby,zbz,zca,zcb,zcc,zcd,zce,zcf,zcg,zch,zci,zcj,zck,zcl,zcm,zcn,zco,zcp,zcq,zcr,Nat.reduceEqDiff,Nat.reduceLT,Nat.reduceAdd,Nat.reduceSub,reduceIte,Kt_P,zcs,zct,zcu,zcv,zcw,zcx,zcy,zcz,zda,zdb,zdc,zdd,zde,zdf,zdg,zdh,zdi,zdj,zdk,reduceCtorEq,zdl,zdm,zdn,goInt,zdo,zdp,zdq,zdr,zds,zdt,zdu,zdv,zdw,zdx,zdy,zdz,zea,zeb,zec,zed,zdk,zee,zef,zeg,zeh,zei,zej,zek,zel,zem,zen,zeo,zep,zeq,zer,zes,zet,zeu,zev,zew,zex,zey,ya,yb,yc,yd,ye,yf,ts_int,ts_int64,ts_bool,ts_ints,ts_post,ts_posts,yg,yh,yi,yj,yk,yl,ym,ts_intsl,ts_int64s,ts_bools,ts_side,ts_sideb,ts_pints,ts_pbool,aPure,aLen]
  rw [CalF_cal (Kt_prim (by decide) _ _)]
  refine few_ok A v2 m h2 hp2 _ fun b2 hb2 => ?_
  cases b2 with
  | false => 
    simp only [zfd,zaa,zab,zac,zad,zae,zaf,zag,zah,zai,zaj,zak,zal,zam,zan,zao,zap,zaq,zar,zas,zat,zau,zav,zaw,zax,zay,zaz,zba,aUn,zbb,zbc,zbd,zbe,zbf,zbg,zbh,zbi,zbj,zbk,zbl,zbm,zbn,flat,simple,zbo,zbp,zbq,zbr,zbs,zbt,zbu,zbv,zbw,zbx,zby,zbz,zca,zcb,zcc,zcd,zce,zcf,zcg,zch,zci,zcj,zck,zcl,zcm,zcn,zco,zcp,zcq,zcr,Nat.reduceEqDiff,Nat.reduceLT,Nat.reduceAdd,Nat.reduceSub,reduceIte,Kt_P,zcs,zct,zcu,zcv,zcw,zcx,zcy,zcz,zda,zdb,zdc,zdd,zde,zdf,zdg,zdh,zdi,zdj,zdk,reduceCtorEq,zdl,zdm,zdn,goInt,zdo,zdp,zdq,zdr,zds,zdt,zdu,zdv,zdw,zdx,zdy,zdz,zea,zeb,zec,zed,zdk,zee,zef,zeg,zeh,zei,zej,zek,zel,zem,zen,zeo,zep,zeq,zer,zes,zet,zeu,zev,zew,zex,zey,ya,yb,yc,yd,ye,yf,ts_int,ts_int64,ts_bool,ts_ints,ts_post,ts_posts,yg,yh,yi,yj,yk,yl,ym,ts_intsl,ts_int64s,ts_bools,ts_side,ts_sideb,ts_pints,ts_pbool,aPure,aLen]
    exact hq _
  | true =>
  replace hb1 := hb1 rfl
  replace hb2 := hb2 rfl
  have ll := tot_len l
  have lm := tot_len m
  have pl : ∀ p ∈ l, p.2.length ≤ 4096 := fun p hp => Nat.le_trans (tot_places p hp) hb1
  have pm : ∀ p ∈ m, p.2.length ≤ 4096 := fun p hp => Nat.le_trans (tot_places p hp) hb2
  simp only [zfd,zaa,zab,zac,zad,zae,zaf,zag,zah,zai,zaj,zak,zal,zam,zan,zao,zap,zaq,zar,zas,zat,zau,zav,zaw,zax,zay,zaz,zba,aUn,zbb,zbc,zbd,zbe,zbf,zbg,zbh,zbi,zbj,zbk,zbl,zbm,zbn,flat,simple,zbo,zbp,zbq,zbr,zbs,zbt,zbu,zbv,zbw,zbx,zby,zbz,zca,zcb,zcc,zcd,zce,zcf,zcg,zch,zci,zcj,zck,zcl,zcm,zcn,zco,zcp,zcq,zcr,Nat.reduceEqDiff,Nat.reduceLT,Nat.reduceAdd,Nat.reduceSub,reduceIte,Kt_P,zcs,zct,zcu,zcv,zcw,zcx,zcy,zcz,zda,zdb,zdc,zdd,zde,zdf,zdg,zdh,zdi,zdj,zdk,reduceCtorEq,zdl,zdm,zdn,goInt,zdo,zdp,zdq,zdr,zds,zdt,zdu,zdv,zdw,zdx,zdy,zdz,zea,zeb,zec,zed,zdk,zee,zef,zeg,zeh,zei,zej,zek,zel,zem,zen,zeo,zep,zeq,zer,zes,zet,zeu,zev,zew,zex,zey,ya,yb,yc,yd,ye,yf,ts_int,ts_int64,ts_bool,ts_ints,ts_post,ts_posts,yg,yh,yi,yj,yk,yl,ym,ts_intsl,ts_int64s,ts_bools,ts_side,ts_sideb,ts_pints,ts_pbool,aPure,aLen]
  rw [CalF_cal (Kt_prim (by decide) _ _)]
  refine Cal_ch Kt_ch hch ?_
  refine lentP_ok A v1 l h1 (by omega) (fun p hp => by have := pl p hp; omega) _ fun va A1 ua hE1 hL1 hch1 => ?_
  simp only [zfd,zaa,zab,zac,zad,zae,zaf,zag,zah,zai,zaj,zak,zal,zam,zan,zao,zap,zaq,zar,zas,zat,zau,zav,zaw,zax,zay,zaz,zba,aUn,zbb,zbc,zbd,zbe,zbf,zbg,zbh,zbi,zbj,zbk,zbl,zbm,zbn,flat,simple,zbo,zbp,zbq,zbr,zbs,zbt,zbu,zbv,zbw,zbx,zby,zbz,zca,zcb,zcc,zcd,zce,zcf,zcg,zch,zci,zcj,zck,zcl,zcm,zcn,zco,zcp,zcq,zcr,Nat.reduceEqDiff,Nat.reduceLT,Nat.reduceAdd,Nat.reduceSub,reduceIte,Kt_P,zcs,zct,zcu,zcv,zcw,zcx,zcy,zcz,zda,zdb,zdc,zdd,zde,zdf,zdg,zdh,zdi,zdj,zdk,reduceCtorEq,zdl,zdm,zdn,goInt,zdo,zdp,zdq,zdr,zds,zdt,zdu,zdv,zdw,zdx,zdy,zdz,zea,zeb,zec,zed,zdk,zee,zef,zeg,zeh,zei,zej,zek,zel,zem,zen,zeo,zep,zeq,zer,zes,zet,zeu,zev,zew,zex,zey,ya,yb,yc,yd,ye,yf,ts_int,ts_int64,ts_bool,ts_ints,ts_post,ts_posts,yg,yh,yi,yj,yk,yl,ym,ts_intsl,ts_int64s,ts_bools,ts_side,ts_sideb,ts_pints,ts_pbool,aPure,aLen]
  rw [CalF_cal (Kt_prim (by decide) _ _)]
  refine Cal_ch Kt_ch hch1 ?_
  refine lentP_ok A1 v2 m (h2.fr hE1) (by omega) (fun p hp => by have := pm p hp; omega) _ fun vb A2 ub hE2 hL2 hch2 => ?_
  have hC1 := (Col.nil A.next A).lent hE1 (Nat.le_refl _) hL1
  have hC2 := hC1.lent hE2 hE1.next hL2
  simp only [List.nil_append,List.cons_append] at hC1 hC2
  replace hL2 := hL2.low
  replace hL1 := (hL1.low.fr hE2 fun _ _ _ h => h)
  have hpa : ∀ H, Fr (fun x => A2.next ≤ x) A2 H → Posts H va l := fun H hF => hL1.posts.fr hF
  have hpb : ∀ H, Fr (fun x => A2.next ≤ x) A2 H → Posts H vb m := fun H hF => hL2.posts.fr hF
  simp only [zfd,zaa,zab,zac,zad,zae,zaf,zag,zah,zai,zaj,zak,zal,zam,zan,zao,zap,zaq,zar,zas,zat,zau,zav,zaw,zax,zay,zaz,zba,aUn,zbb,zbc,zbd,zbe,zbf,zbg,zbh,zbi,zbj,zbk,zbl,zbm,zbn,flat,simple,zbo,zbp,zbq,zbr,zbs,zbt,zbu,zbv,zbw,zbx,zby,zbz,zca,zcb,zcc,zcd,zce,zcf,zcg,zch,zci,zcj,zck,zcl,zcm,zcn,zco,zcp,zcq,zcr,Nat.reduceEqDiff,Nat.reduceLT,Nat.reduceAdd,Nat.reduceSub,reduceIte,Kt_P,zcs,zct,zcu,zcv,zcw,zcx,zcy,zcz,zda,zdb,zdc,zdd,zde,zdf,zdg,zdh,zdi,zdj,zdk,reduceCtorEq,zdl,zdm,zdn,goInt,zdo,zdp,zdq,zdr,zds,zdt,zdu,zdv,zdw,zdx,zdy,zdz,zea,zeb,zec,zed,zdk,zee,zef,zeg,zeh,zei,zej,zek,zel,zem,zen,zeo,zep,zeq,zer,zes,zet,zeu,zev,zew,zex,zey,ya,yb,yc,yd,ye,yf,ts_int,ts_int64,ts_bool,ts_ints,ts_post,ts_posts,yg,yh,yi,yj,yk,yl,ym,ts_intsl,ts_int64s,ts_bools,ts_side,ts_sideb,ts_pints,ts_pbool,aPure,aLen]
  refine OpW_ch Kt_ch hch2 ?_
  refine OpW_alloc_of ts_25 tz_25 (by decide) fun g A3 hb3 hn3 hE3 hB3 hch3 => ?_
  have hG0 : Got A A2 l m gap [⟨va, ua⟩, ⟨vb, ub⟩] g [] A3 := ⟨hch3, Nat.le_trans hE1.next hE2.next, hE3.fr, hC2.fr hE3 fun _ _ h => h.elim, hB3, by omega, fun i hi => by simp at hi, fun i => resL_bound i pl pm (by omega) (by omega)⟩
  simp only [zfd,zaa,zab,zac,zad,zae,zaf,zag,zah,zai,zaj,zak,zal,zam,zan,zao,zap,zaq,zar,zas,zat,zau,zav,zaw,zax,zay,zaz,zba,aUn,zbb,zbc,zbd,zbe,zbf,zbg,zbh,zbi,zbj,zbk,zbl,zbm,zbn,flat,simple,zbo,zbp,zbq,zbr,zbs,zbt,zbu,zbv,zbw,zbx,zby,zbz,zca,zcb,zcc,zcd,zce,zcf,zcg,zch,zci,zcj,zck,zcl,zcm,zcn,zco,zcp,zcq,zcr,Nat.reduceEqDiff,Nat.reduceLT,Nat.reduceAdd,Nat.reduceSub,reduceIte,Kt_P,zcs,zct,zcu,zcv,zcw,zcx,zcy,zcz,zda,zdb,zdc,zdd,zde,zdf,zdg,zdh,zdi,zdj,zdk,reduceCtorEq,zdl,zdm,zdn,goInt,zdo,zdp,zdq,zdr,zds,zdt,zdu,zdv,zdw,zdx,zdy,zdz,zea,zeb,zec,zed,zdk,zee,zef,zeg,zeh,zei,zej,zek,zel,zem,zen,zeo,zep,zeq,zer,zes,zet,zeu,zev,zew,zex,zey,ya,yb,yc,yd,ye,yf,ts_int,ts_int64,ts_bool,ts_ints,ts_post,ts_posts,yg,yh,yi,yj,yk,yl,ym,ts_intsl,ts_int64s,ts_bools,ts_side,ts_sideb,ts_pints,ts_pbool,aPure,aLen]
  refine Lop_inv (fun k' e H => ∃ (k : Nat) (its : List It), (e 0 = v1 ∧ e 1 = v2 ∧ e 2 = .int .i64 gap ∧ e 7 = va ∧ e 8 = vb ∧ e 9 = .pointer (some ⟨g, 0, none⟩) ∧ e 10 = .int .i64 k) ∧ k' = 2 - k ∧ k ≤ 2 ∧ its.length = 5 * k ∧ Got A A2 l m gap [⟨va, ua⟩, ⟨vb, ub⟩] g its H)
    ?_ 2 _ _ ⟨0, [], by simp [put_at, argEnv], by simp, by simp, by simp, hG0⟩
  rintro k' e H ⟨k, its, ⟨e0, e1, e2, e7, e8, e9, e10⟩, rfl, hk, hil0, hG⟩
  simp only [zfd,zaa,zab,zac,zad,zae,zaf,zag,zah,zai,zaj,zak,zal,zam,zan,zao,zap,zaq,zar,zas,zat,zau,zav,zaw,zax,zay,zaz,zba,aUn,zbb,zbc,zbd,zbe,zbf,zbg,zbh,zbi,zbj,zbk,zbl,zbm,zbn,flat,simple,zbo,zbp,zbq,zbr,zbs,zbt,zbu,zbv,zbw,zbx,zby,zbz,zca,zcb,zcc,zcd,zce,zcf,zcg,zch,zci,zcj,zck,zcl,zcm,zcn,zco,zcp,zcq,zcr,Nat.reduceEqDiff,Nat.reduceLT,Nat.reduceAdd,Nat.reduceSub,reduceIte,Kt_P,zcs,zct,zcu,zcv,zcw,zcx,zcy,zcz,zda,zdb,zdc,zdd,zde,zdf,zdg,zdh,zdi,zdj,zdk,reduceCtorEq,zdl,zdm,zdn,goInt,zdo,zdp,zdq,zdr,zds,zdt,zdu,zdv,zdw,zdx,zdy,zdz,zea,zeb,zec,zed,zdk,zee,zef,zeg,zeh,zei,zej,zek,zel,zem,zen,zeo,zep,zeq,zer,zes,zet,zeu,zev,zew,zex,zey,ya,yb,yc,yd,ye,yf,ts_int,ts_int64,ts_bool,ts_ints,ts_post,ts_posts,yg,yh,yi,yj,yk,yl,ym,ts_intsl,ts_int64s,ts_bools,ts_side,ts_sideb,ts_pints,ts_pbool,aPure,aLen,e10]
  refine Way_of (fun hlt => ?_) (fun hge => ?_)
  · have hlt' : k < 2 := by omega
    have hw0 : IntKind.i64.wrap (5 * (k : Int)) = ((5 * k : Nat) : Int) := by rw [wrap_i64 (by omega)]; omega
    have hw1 : IntKind.i64.wrap (((5 * k : Nat) : Int) + 1) = ((5 * k + 1 : Nat) : Int) := by rw [wrap_i64 (by omega)]; omega
    have hw2 : IntKind.i64.wrap (((5 * k : Nat) : Int) + 2) = ((5 * k + 2 : Nat) : Int) := by rw [wrap_i64 (by omega)]; omega
    have hw3 : IntKind.i64.wrap (((5 * k : Nat) : Int) + 3) = ((5 * k + 3 : Nat) : Int) := by rw [wrap_i64 (by omega)]; omega
    have hw4 : IntKind.i64.wrap (((5 * k : Nat) : Int) + 4) = ((5 * k + 4 : Nat) : Int) := by rw [wrap_i64 (by omega)]; omega
    have hl0 : 5 * k < 10 := by omega
    have hl1 : 5 * k + 1 < 10 := by omega
    have hl2 : 5 * k + 2 < 10 := by omega
    have hl3 : 5 * k + 3 < 10 := by omega
    have hl4 : 5 * k + 4 < 10 := by omega
    have hl0' : ((5 * k : Nat) : Int) < 10 := by omega
    have hl1' : ((5 * k + 1 : Nat) : Int) < 10 := by omega
    have hl2' : ((5 * k + 2 : Nat) : Int) < 10 := by omega
    have hl3' : ((5 * k + 3 : Nat) : Int) < 10 := by omega
    have hl4' : ((5 * k + 4 : Nat) : Int) < 10 := by omega
    simp only [zfd,zaa,zab,zac,zad,zae,zaf,zag,zah,zai,zaj,zak,zal,zam,zan,zao,zap,zaq,zar,zas,zat,zau,zav,zaw,zax,zay,zaz,zba,aUn,zbb,zbc,zbd,zbe,zbf,zbg,zbh,zbi,zbj,zbk,zbl,zbm,zbn,flat,simple,zbo,zbp,zbq,zbr,zbs,zbt,zbu,zbv,zbw,zbx,zby,zbz,zca,zcb,zcc,zcd,zce,zcf,zcg,zch,zci,zcj,zck,zcl,zcm,zcn,zco,zcp,zcq,zcr,Nat.reduceEqDiff,Nat.reduceLT,Nat.reduceAdd,Nat.reduceSub,reduceIte,Kt_P,zcs,zct,zcu,zcv,zcw,zcx,zcy,zcz,zda,zdb,zdc,zdd,zde,zdf,zdg,zdh,zdi,zdj,zdk,reduceCtorEq,zdl,zdm,zdn,goInt,zdo,zdp,zdq,zdr,zds,zdt,zdu,zdv,zdw,zdx,zdy,zdz,zea,zeb,zec,zed,zdk,zee,zef,zeg,zeh,zei,zej,zek,zel,zem,zen,zeo,zep,zeq,zer,zes,zet,zeu,zev,zew,zex,zey,ya,yb,yc,yd,ye,yf,ts_int,ts_int64,ts_bool,ts_ints,ts_post,ts_posts,yg,yh,yi,yj,yk,yl,ym,ts_intsl,ts_int64s,ts_bools,ts_side,ts_sideb,ts_pints,ts_pbool,aPure,aLen,e0,e1,e2,e7,e8,e9,e10,hw0,hw1,hw2,hw3,hw4]
    rw [CalF_cal (Kt_prim (by decide) _ _)]
    refine Cal_ch Kt_ch hG.ch ?_
    refine either_ok H va vb l m  (hpa _ hG.fr) (hpb _ hG.fr) (by omega) (by omega) (big pl) (big pm) _ fun v A1 hE h1 h2 hch1 => ?_
    have hr : PRes H A1 v (resL l m gap (its.length % 5)) := by rw [show its.length % 5 = 0 by omega]; exact PRes.r0 h1 h2
    obtain ⟨ov, cv, hov, _⟩ := hr.posts.opened
    subst hov
    simp only [zfd,zaa,zab,zac,zad,zae,zaf,zag,zah,zai,zaj,zak,zal,zam,zan,zao,zap,zaq,zar,zas,zat,zau,zav,zaw,zax,zay,zaz,zba,aUn,zbb,zbc,zbd,zbe,zbf,zbg,zbh,zbi,zbj,zbk,zbl,zbm,zbn,flat,simple,zbo,zbp,zbq,zbr,zbs,zbt,zbu,zbv,zbw,zbx,zby,zbz,zca,zcb,zcc,zcd,zce,zcf,zcg,zch,zci,zcj,zck,zcl,zcm,zcn,zco,zcp,zcq,zcr,Nat.reduceEqDiff,Nat.reduceLT,Nat.reduceAdd,Nat.reduceSub,reduceIte,Kt_P,zcs,zct,zcu,zcv,zcw,zcx,zcy,zcz,zda,zdb,zdc,zdd,zde,zdf,zdg,zdh,zdi,zdj,zdk,reduceCtorEq,zdl,zdm,zdn,goInt,zdo,zdp,zdq,zdr,zds,zdt,zdu,zdv,zdw,zdx,zdy,zdz,zea,zeb,zec,zed,zdk,zee,zef,zeg,zeh,zei,zej,zek,zel,zem,zen,zeo,zep,zeq,zer,zes,zet,zeu,zev,zew,zex,zey,ya,yb,yc,yd,ye,yf,ts_int,ts_int64,ts_bool,ts_ints,ts_post,ts_posts,yg,yh,yi,yj,yk,yl,ym,ts_intsl,ts_int64s,ts_bools,ts_side,ts_sideb,ts_pints,ts_pbool,aPure,aLen,y25,ts_posts',e0,e1,e2,e7,e8,e9,e10,hw0,hw1,hw2,hw3,hw4,hl0,hl1,hl2,hl3,hl4,hl0',hl1',hl2',hl3',hl4']
    refine OpW_ch Kt_ch hch1 ?_
    refine OpW_store_of (o := its.length) (hE.box hG.box fun h => h) ⟨rfl, rfl⟩ (by simp only [zfd,zaa,zab,zac,zad,zae,zaf,zag,zah,zai,zaj,zak,zal,zam,zan,zao,zap,zaq,zar,zas,zat,zau,zav,zaw,zax,zay,zaz,zba,aUn,zbb,zbc,zbd,zbe,zbf,zbg,zbh,zbi,zbj,zbk,zbl,zbm,zbn,flat,simple,zbo,zbp,zbq,zbr,zbs,zbt,zbu,zbv,zbw,zbx,zby,zbz,zca,zcb,zcc,zcd,zce,zcf,zcg,zch,zci,zcj,zck,zcl,zcm,zcn,zco,zcp,zcq,zcr,Nat.reduceEqDiff,Nat.reduceLT,Nat.reduceAdd,Nat.reduceSub,reduceIte,Kt_P,zcs,zct,zcu,zcv,zcw,zcx,zcy,zcz,zda,zdb,zdc,zdd,zde,zdf,zdg,zdh,zdi,zdj,zdk,reduceCtorEq,zdl,zdm,zdn,goInt,zdo,zdp,zdq,zdr,zds,zdt,zdu,zdv,zdw,zdx,zdy,zdz,zea,zeb,zec,zed,zdk,zee,zef,zeg,zeh,zei,zej,zek,zel,zem,zen,zeo,zep,zeq,zer,zes,zet,zeu,zev,zew,zex,zey,ya,yb,yc,yd,ye,yf,ts_int,ts_int64,ts_bool,ts_ints,ts_post,ts_posts,yg,yh,yi,yj,yk,yl,ym,ts_intsl,ts_int64s,ts_bools,ts_side,ts_sideb,ts_pints,ts_pbool,aPure,aLen,e9,hil0]) ts_posts' (show its.length + 1 ≤ _ by simp; omega) rfl fun H1 hn hF hB hch3 => ?_
    obtain ⟨its1, hil1, hG1⟩ := Got.step' hG (by omega) hE hr hF hB hch3
    rw [hil0] at hil1
    simp only [zfd,zaa,zab,zac,zad,zae,zaf,zag,zah,zai,zaj,zak,zal,zam,zan,zao,zap,zaq,zar,zas,zat,zau,zav,zaw,zax,zay,zaz,zba,aUn,zbb,zbc,zbd,zbe,zbf,zbg,zbh,zbi,zbj,zbk,zbl,zbm,zbn,flat,simple,zbo,zbp,zbq,zbr,zbs,zbt,zbu,zbv,zbw,zbx,zby,zbz,zca,zcb,zcc,zcd,zce,zcf,zcg,zch,zci,zcj,zck,zcl,zcm,zcn,zco,zcp,zcq,zcr,Nat.reduceEqDiff,Nat.reduceLT,Nat.reduceAdd,Nat.reduceSub,reduceIte,Kt_P,zcs,zct,zcu,zcv,zcw,zcx,zcy,zcz,zda,zdb,zdc,zdd,zde,zdf,zdg,zdh,zdi,zdj,zdk,reduceCtorEq,zdl,zdm,zdn,goInt,zdo,zdp,zdq,zdr,zds,zdt,zdu,zdv,zdw,zdx,zdy,zdz,zea,zeb,zec,zed,zdk,zee,zef,zeg,zeh,zei,zej,zek,zel,zem,zen,zeo,zep,zeq,zer,zes,zet,zeu,zev,zew,zex,zey,ya,yb,yc,yd,ye,yf,ts_int,ts_int64,ts_bool,ts_ints,ts_post,ts_posts,yg,yh,yi,yj,yk,yl,ym,ts_intsl,ts_int64s,ts_bools,ts_side,ts_sideb,ts_pints,ts_pbool,aPure,aLen,y25,ts_posts',e0,e1,e2,e7,e8,e9,e10,hw0,hw1,hw2,hw3,hw4]
    clear hr hE h1 h2 hF hB hch1 hch3 hn
    rw [CalF_cal (Kt_prim (by decide) _ _)]
    refine Cal_ch Kt_ch hG1.ch ?_
    refine both_ok H1 va vb l m  (hpa _ hG1.fr) (hpb _ hG1.fr) (by omega) (by omega) (big pl) (big pm) _ fun v A1 hE h1 h2 hch1 => ?_
    have hr : PRes H1 A1 v (resL l m gap (its1.length % 5)) := by rw [show its1.length % 5 = 1 by omega]; exact PRes.r1 h1 h2
    obtain ⟨ov, cv, hov, _⟩ := hr.posts.opened
    subst hov
    simp only [zfd,zaa,zab,zac,zad,zae,zaf,zag,zah,zai,zaj,zak,zal,zam,zan,zao,zap,zaq,zar,zas,zat,zau,zav,zaw,zax,zay,zaz,zba,aUn,zbb,zbc,zbd,zbe,zbf,zbg,zbh,zbi,zbj,zbk,zbl,zbm,zbn,flat,simple,zbo,zbp,zbq,zbr,zbs,zbt,zbu,zbv,zbw,zbx,zby,zbz,zca,zcb,zcc,zcd,zce,zcf,zcg,zch,zci,zcj,zck,zcl,zcm,zcn,zco,zcp,zcq,zcr,Nat.reduceEqDiff,Nat.reduceLT,Nat.reduceAdd,Nat.reduceSub,reduceIte,Kt_P,zcs,zct,zcu,zcv,zcw,zcx,zcy,zcz,zda,zdb,zdc,zdd,zde,zdf,zdg,zdh,zdi,zdj,zdk,reduceCtorEq,zdl,zdm,zdn,goInt,zdo,zdp,zdq,zdr,zds,zdt,zdu,zdv,zdw,zdx,zdy,zdz,zea,zeb,zec,zed,zdk,zee,zef,zeg,zeh,zei,zej,zek,zel,zem,zen,zeo,zep,zeq,zer,zes,zet,zeu,zev,zew,zex,zey,ya,yb,yc,yd,ye,yf,ts_int,ts_int64,ts_bool,ts_ints,ts_post,ts_posts,yg,yh,yi,yj,yk,yl,ym,ts_intsl,ts_int64s,ts_bools,ts_side,ts_sideb,ts_pints,ts_pbool,aPure,aLen,y25,ts_posts',e0,e1,e2,e7,e8,e9,e10,hw0,hw1,hw2,hw3,hw4,hl0,hl1,hl2,hl3,hl4,hl0',hl1',hl2',hl3',hl4']
    refine OpW_ch Kt_ch hch1 ?_
    refine OpW_store_of (o := its1.length) (hE.box hG1.box fun h => h) ⟨rfl, rfl⟩ (by simp only [zfd,zaa,zab,zac,zad,zae,zaf,zag,zah,zai,zaj,zak,zal,zam,zan,zao,zap,zaq,zar,zas,zat,zau,zav,zaw,zax,zay,zaz,zba,aUn,zbb,zbc,zbd,zbe,zbf,zbg,zbh,zbi,zbj,zbk,zbl,zbm,zbn,flat,simple,zbo,zbp,zbq,zbr,zbs,zbt,zbu,zbv,zbw,zbx,zby,zbz,zca,zcb,zcc,zcd,zce,zcf,zcg,zch,zci,zcj,zck,zcl,zcm,zcn,zco,zcp,zcq,zcr,Nat.reduceEqDiff,Nat.reduceLT,Nat.reduceAdd,Nat.reduceSub,reduceIte,Kt_P,zcs,zct,zcu,zcv,zcw,zcx,zcy,zcz,zda,zdb,zdc,zdd,zde,zdf,zdg,zdh,zdi,zdj,zdk,reduceCtorEq,zdl,zdm,zdn,goInt,zdo,zdp,zdq,zdr,zds,zdt,zdu,zdv,zdw,zdx,zdy,zdz,zea,zeb,zec,zed,zdk,zee,zef,zeg,zeh,zei,zej,zek,zel,zem,zen,zeo,zep,zeq,zer,zes,zet,zeu,zev,zew,zex,zey,ya,yb,yc,yd,ye,yf,ts_int,ts_int64,ts_bool,ts_ints,ts_post,ts_posts,yg,yh,yi,yj,yk,yl,ym,ts_intsl,ts_int64s,ts_bools,ts_side,ts_sideb,ts_pints,ts_pbool,aPure,aLen,e9,hil1]) ts_posts' (show its1.length + 1 ≤ _ by simp; omega) rfl fun H2 hn hF hB hch3 => ?_
    obtain ⟨its2, hil2, hG2⟩ := Got.step' hG1 (by omega) hE hr hF hB hch3
    rw [hil1] at hil2
    simp only [zfd,zaa,zab,zac,zad,zae,zaf,zag,zah,zai,zaj,zak,zal,zam,zan,zao,zap,zaq,zar,zas,zat,zau,zav,zaw,zax,zay,zaz,zba,aUn,zbb,zbc,zbd,zbe,zbf,zbg,zbh,zbi,zbj,zbk,zbl,zbm,zbn,flat,simple,zbo,zbp,zbq,zbr,zbs,zbt,zbu,zbv,zbw,zbx,zby,zbz,zca,zcb,zcc,zcd,zce,zcf,zcg,zch,zci,zcj,zck,zcl,zcm,zcn,zco,zcp,zcq,zcr,Nat.reduceEqDiff,Nat.reduceLT,Nat.reduceAdd,Nat.reduceSub,reduceIte,Kt_P,zcs,zct,zcu,zcv,zcw,zcx,zcy,zcz,zda,zdb,zdc,zdd,zde,zdf,zdg,zdh,zdi,zdj,zdk,reduceCtorEq,zdl,zdm,zdn,goInt,zdo,zdp,zdq,zdr,zds,zdt,zdu,zdv,zdw,zdx,zdy,zdz,zea,zeb,zec,zed,zdk,zee,zef,zeg,zeh,zei,zej,zek,zel,zem,zen,zeo,zep,zeq,zer,zes,zet,zeu,zev,zew,zex,zey,ya,yb,yc,yd,ye,yf,ts_int,ts_int64,ts_bool,ts_ints,ts_post,ts_posts,yg,yh,yi,yj,yk,yl,ym,ts_intsl,ts_int64s,ts_bools,ts_side,ts_sideb,ts_pints,ts_pbool,aPure,aLen,y25,ts_posts',e0,e1,e2,e7,e8,e9,e10,hw0,hw1,hw2,hw3,hw4]
    clear hr hE h1 h2 hF hB hch1 hch3 hn
    rw [CalF_cal (Kt_prim (by decide) _ _)]
    refine Cal_ch Kt_ch hG2.ch ?_
    refine less_ok H2 va vb l m  (hpa _ hG2.fr) (hpb _ hG2.fr) (by omega) (by omega) (big pl) (big pm) _ fun v A1 hE h1 h2 hch1 => ?_
    have hr : PRes H2 A1 v (resL l m gap (its2.length % 5)) := by rw [show its2.length % 5 = 2 by omega]; exact PRes.r2 h1 h2
    obtain ⟨ov, cv, hov, _⟩ := hr.posts.opened
    subst hov
    simp only [zfd,zaa,zab,zac,zad,zae,zaf,zag,zah,zai,zaj,zak,zal,zam,zan,zao,zap,zaq,zar,zas,zat,zau,zav,zaw,zax,zay,zaz,zba,aUn,zbb,zbc,zbd,zbe,zbf,zbg,zbh,zbi,zbj,zbk,zbl,zbm,zbn,flat,simple,zbo,zbp,zbq,zbr,zbs,zbt,zbu,zbv,zbw,zbx,zby,zbz,zca,zcb,zcc,zcd,zce,zcf,zcg,zch,zci,zcj,zck,zcl,zcm,zcn,zco,zcp,zcq,zcr,Nat.reduceEqDiff,Nat.reduceLT,Nat.reduceAdd,Nat.reduceSub,reduceIte,Kt_P,zcs,zct,zcu,zcv,zcw,zcx,zcy,zcz,zda,zdb,zdc,zdd,zde,zdf,zdg,zdh,zdi,zdj,zdk,reduceCtorEq,zdl,zdm,zdn,goInt,zdo,zdp,zdq,zdr,zds,zdt,zdu,zdv,zdw,zdx,zdy,zdz,zea,zeb,zec,zed,zdk,zee,zef,zeg,zeh,zei,zej,zek,zel,zem,zen,zeo,zep,zeq,zer,zes,zet,zeu,zev,zew,zex,zey,ya,yb,yc,yd,ye,yf,ts_int,ts_int64,ts_bool,ts_ints,ts_post,ts_posts,yg,yh,yi,yj,yk,yl,ym,ts_intsl,ts_int64s,ts_bools,ts_side,ts_sideb,ts_pints,ts_pbool,aPure,aLen,y25,ts_posts',e0,e1,e2,e7,e8,e9,e10,hw0,hw1,hw2,hw3,hw4,hl0,hl1,hl2,hl3,hl4,hl0',hl1',hl2',hl3',hl4']
    refine OpW_ch Kt_ch hch1 ?_
    refine OpW_store_of (o := its2.length) (hE.box hG2.box fun h => h) ⟨rfl, rfl⟩ (by simp only [zfd,zaa,zab,zac,zad,zae,zaf,zag,zah,zai,zaj,zak,zal,zam,zan,zao,zap,zaq,zar,zas,zat,zau,zav,zaw,zax,zay,zaz,zba,aUn,zbb,zbc,zbd,zbe,zbf,zbg,zbh,zbi,zbj,zbk,zbl,zbm,zbn,flat,simple,zbo,zbp,zbq,zbr,zbs,zbt,zbu,zbv,zbw,zbx,zby,zbz,zca,zcb,zcc,zcd,zce,zcf,zcg,zch,zci,zcj,zck,zcl,zcm,zcn,zco,zcp,zcq,zcr,Nat.reduceEqDiff,Nat.reduceLT,Nat.reduceAdd,Nat.reduceSub,reduceIte,Kt_P,zcs,zct,zcu,zcv,zcw,zcx,zcy,zcz,zda,zdb,zdc,zdd,zde,zdf,zdg,zdh,zdi,zdj,zdk,reduceCtorEq,zdl,zdm,zdn,goInt,zdo,zdp,zdq,zdr,zds,zdt,zdu,zdv,zdw,zdx,zdy,zdz,zea,zeb,zec,zed,zdk,zee,zef,zeg,zeh,zei,zej,zek,zel,zem,zen,zeo,zep,zeq,zer,zes,zet,zeu,zev,zew,zex,zey,ya,yb,yc,yd,ye,yf,ts_int,ts_int64,ts_bool,ts_ints,ts_post,ts_posts,yg,yh,yi,yj,yk,yl,ym,ts_intsl,ts_int64s,ts_bools,ts_side,ts_sideb,ts_pints,ts_pbool,aPure,aLen,e9,hil2]) ts_posts' (show its2.length + 1 ≤ _ by simp; omega) rfl fun H3 hn hF hB hch3 => ?_
    obtain ⟨its3, hil3, hG3⟩ := Got.step' hG2 (by omega) hE hr hF hB hch3
    rw [hil2] at hil3
    simp only [zfd,zaa,zab,zac,zad,zae,zaf,zag,zah,zai,zaj,zak,zal,zam,zan,zao,zap,zaq,zar,zas,zat,zau,zav,zaw,zax,zay,zaz,zba,aUn,zbb,zbc,zbd,zbe,zbf,zbg,zbh,zbi,zbj,zbk,zbl,zbm,zbn,flat,simple,zbo,zbp,zbq,zbr,zbs,zbt,zbu,zbv,zbw,zbx,zby,zbz,zca,zcb,zcc,zcd,zce,zcf,zcg,zch,zci,zcj,zck,zcl,zcm,zcn,zco,zcp,zcq,zcr,Nat.reduceEqDiff,Nat.reduceLT,Nat.reduceAdd,Nat.reduceSub,reduceIte,Kt_P,zcs,zct,zcu,zcv,zcw,zcx,zcy,zcz,zda,zdb,zdc,zdd,zde,zdf,zdg,zdh,zdi,zdj,zdk,reduceCtorEq,zdl,zdm,zdn,goInt,zdo,zdp,zdq,zdr,zds,zdt,zdu,zdv,zdw,zdx,zdy,zdz,zea,zeb,zec,zed,zdk,zee,zef,zeg,zeh,zei,zej,zek,zel,zem,zen,zeo,zep,zeq,zer,zes,zet,zeu,zev,zew,zex,zey,ya,yb,yc,yd,ye,yf,ts_int,ts_int64,ts_bool,ts_ints,ts_post,ts_posts,yg,yh,yi,yj,yk,yl,ym,ts_intsl,ts_int64s,ts_bools,ts_side,ts_sideb,ts_pints,ts_pbool,aPure,aLen,y25,ts_posts',e0,e1,e2,e7,e8,e9,e10,hw0,hw1,hw2,hw3,hw4]
    clear hr hE h1 h2 hF hB hch1 hch3 hn
    rw [CalF_cal (Kt_prim (by decide) _ _)]
    refine Cal_ch Kt_ch hG3.ch ?_
    refine less_ok H3 vb va m l  (hpb _ hG3.fr) (hpa _ hG3.fr) (by omega) (by omega) (big pm) (big pl) _ fun v A1 hE h1 h2 hch1 => ?_
    have hr : PRes H3 A1 v (resL l m gap (its3.length % 5)) := by rw [show its3.length % 5 = 3 by omega]; exact PRes.r3 h1 h2
    obtain ⟨ov, cv, hov, _⟩ := hr.posts.opened
    subst hov
    simp only [zfd,zaa,zab,zac,zad,zae,zaf,zag,zah,zai,zaj,zak,zal,zam,zan,zao,zap,zaq,zar,zas,zat,zau,zav,zaw,zax,zay,zaz,zba,aUn,zbb,zbc,zbd,zbe,zbf,zbg,zbh,zbi,zbj,zbk,zbl,zbm,zbn,flat,simple,zbo,zbp,zbq,zbr,zbs,zbt,zbu,zbv,zbw,zbx,zby,zbz,zca,zcb,zcc,zcd,zce,zcf,zcg,zch,zci,zcj,zck,zcl,zcm,zcn,zco,zcp,zcq,zcr,Nat.reduceEqDiff,Nat.reduceLT,Nat.reduceAdd,Nat.reduceSub,reduceIte,Kt_P,zcs,zct,zcu,zcv,zcw,zcx,zcy,zcz,zda,zdb,zdc,zdd,zde,zdf,zdg,zdh,zdi,zdj,zdk,reduceCtorEq,zdl,zdm,zdn,goInt,zdo,zdp,zdq,zdr,zds,zdt,zdu,zdv,zdw,zdx,zdy,zdz,zea,zeb,zec,zed,zdk,zee,zef,zeg,zeh,zei,zej,zek,zel,zem,zen,zeo,zep,zeq,zer,zes,zet,zeu,zev,zew,zex,zey,ya,yb,yc,yd,ye,yf,ts_int,ts_int64,ts_bool,ts_ints,ts_post,ts_posts,yg,yh,yi,yj,yk,yl,ym,ts_intsl,ts_int64s,ts_bools,ts_side,ts_sideb,ts_pints,ts_pbool,aPure,aLen,y25,ts_posts',e0,e1,e2,e7,e8,e9,e10,hw0,hw1,hw2,hw3,hw4,hl0,hl1,hl2,hl3,hl4,hl0',hl1',hl2',hl3',hl4']
    refine OpW_ch Kt_ch hch1 ?_
    refine OpW_store_of (o := its3.length) (hE.box hG3.box fun h => h) ⟨rfl, rfl⟩ (by simp only [zfd,zaa,zab,zac,zad,zae,zaf,zag,zah,zai,zaj,zak,zal,zam,zan,zao,zap,zaq,zar,zas,zat,zau,zav,zaw,zax,zay,zaz,zba,aUn,zbb,zbc,zbd,zbe,zbf,zbg,zbh,zbi,zbj,zbk,zbl,zbm,zbn,flat,simple,zbo,zbp,zbq,zbr,zbs,zbt,zbu,zbv,zbw,zbx,zby,zbz,zca,zcb,zcc,zcd,zce,zcf,zcg,zch,zci,zcj,zck,zcl,zcm,zcn,zco,zcp,zcq,zcr,Nat.reduceEqDiff,Nat.reduceLT,Nat.reduceAdd,Nat.reduceSub,reduceIte,Kt_P,zcs,zct,zcu,zcv,zcw,zcx,zcy,zcz,zda,zdb,zdc,zdd,zde,zdf,zdg,zdh,zdi,zdj,zdk,reduceCtorEq,zdl,zdm,zdn,goInt,zdo,zdp,zdq,zdr,zds,zdt,zdu,zdv,zdw,zdx,zdy,zdz,zea,zeb,zec,zed,zdk,zee,zef,zeg,zeh,zei,zej,zek,zel,zem,zen,zeo,zep,zeq,zer,zes,zet,zeu,zev,zew,zex,zey,ya,yb,yc,yd,ye,yf,ts_int,ts_int64,ts_bool,ts_ints,ts_post,ts_posts,yg,yh,yi,yj,yk,yl,ym,ts_intsl,ts_int64s,ts_bools,ts_side,ts_sideb,ts_pints,ts_pbool,aPure,aLen,e9,hil3]) ts_posts' (show its3.length + 1 ≤ _ by simp; omega) rfl fun H4 hn hF hB hch3 => ?_
    obtain ⟨its4, hil4, hG4⟩ := Got.step' hG3 (by omega) hE hr hF hB hch3
    rw [hil3] at hil4
    simp only [zfd,zaa,zab,zac,zad,zae,zaf,zag,zah,zai,zaj,zak,zal,zam,zan,zao,zap,zaq,zar,zas,zat,zau,zav,zaw,zax,zay,zaz,zba,aUn,zbb,zbc,zbd,zbe,zbf,zbg,zbh,zbi,zbj,zbk,zbl,zbm,zbn,flat,simple,zbo,zbp,zbq,zbr,zbs,zbt,zbu,zbv,zbw,zbx,zby,zbz,zca,zcb,zcc,zcd,zce,zcf,zcg,zch,zci,zcj,zck,zcl,zcm,zcn,zco,zcp,zcq,zcr,Nat.reduceEqDiff,Nat.reduceLT,Nat.reduceAdd,Nat.reduceSub,reduceIte,Kt_P,zcs,zct,zcu,zcv,zcw,zcx,zcy,zcz,zda,zdb,zdc,zdd,zde,zdf,zdg,zdh,zdi,zdj,zdk,reduceCtorEq,zdl,zdm,zdn,goInt,zdo,zdp,zdq,zdr,zds,zdt,zdu,zdv,zdw,zdx,zdy,zdz,zea,zeb,zec,zed,zdk,zee,zef,zeg,zeh,zei,zej,zek,zel,zem,zen,zeo,zep,zeq,zer,zes,zet,zeu,zev,zew,zex,zey,ya,yb,yc,yd,ye,yf,ts_int,ts_int64,ts_bool,ts_ints,ts_post,ts_posts,yg,yh,yi,yj,yk,yl,ym,ts_intsl,ts_int64s,ts_bools,ts_side,ts_sideb,ts_pints,ts_pbool,aPure,aLen,y25,ts_posts',e0,e1,e2,e7,e8,e9,e10,hw0,hw1,hw2,hw3,hw4]
    clear hr hE h1 h2 hF hB hch1 hch3 hn
    rw [CalF_cal (Kt_prim (by decide) _ _)]
    refine Cal_ch Kt_ch hG4.ch ?_
    refine follow_ok H4 va vb l m gap hg (hpa _ hG4.fr) (hpb _ hG4.fr) (by omega) (by omega) (big pl) (big pm) _ fun v A1 hE h1 h2 hch1 => ?_
    have hr : PRes H4 A1 v (resL l m gap (its4.length % 5)) := by rw [show its4.length % 5 = 4 by omega]; exact PRes.r4 h1 h2
    obtain ⟨ov, cv, hov, _⟩ := hr.posts.opened
    subst hov
    simp only [zfd,zaa,zab,zac,zad,zae,zaf,zag,zah,zai,zaj,zak,zal,zam,zan,zao,zap,zaq,zar,zas,zat,zau,zav,zaw,zax,zay,zaz,zba,aUn,zbb,zbc,zbd,zbe,zbf,zbg,zbh,zbi,zbj,zbk,zbl,zbm,zbn,flat,simple,zbo,zbp,zbq,zbr,zbs,zbt,zbu,zbv,zbw,zbx,zby,zbz,zca,zcb,zcc,zcd,zce,zcf,zcg,zch,zci,zcj,zck,zcl,zcm,zcn,zco,zcp,zcq,zcr,Nat.reduceEqDiff,Nat.reduceLT,Nat.reduceAdd,Nat.reduceSub,reduceIte,Kt_P,zcs,zct,zcu,zcv,zcw,zcx,zcy,zcz,zda,zdb,zdc,zdd,zde,zdf,zdg,zdh,zdi,zdj,zdk,reduceCtorEq,zdl,zdm,zdn,goInt,zdo,zdp,zdq,zdr,zds,zdt,zdu,zdv,zdw,zdx,zdy,zdz,zea,zeb,zec,zed,zdk,zee,zef,zeg,zeh,zei,zej,zek,zel,zem,zen,zeo,zep,zeq,zer,zes,zet,zeu,zev,zew,zex,zey,ya,yb,yc,yd,ye,yf,ts_int,ts_int64,ts_bool,ts_ints,ts_post,ts_posts,yg,yh,yi,yj,yk,yl,ym,ts_intsl,ts_int64s,ts_bools,ts_side,ts_sideb,ts_pints,ts_pbool,aPure,aLen,y25,ts_posts',e0,e1,e2,e7,e8,e9,e10,hw0,hw1,hw2,hw3,hw4,hl0,hl1,hl2,hl3,hl4,hl0',hl1',hl2',hl3',hl4']
    refine OpW_ch Kt_ch hch1 ?_
    refine OpW_store_of (o := its4.length) (hE.box hG4.box fun h => h) ⟨rfl, rfl⟩ (by simp only [zfd,zaa,zab,zac,zad,zae,zaf,zag,zah,zai,zaj,zak,zal,zam,zan,zao,zap,zaq,zar,zas,zat,zau,zav,zaw,zax,zay,zaz,zba,aUn,zbb,zbc,zbd,zbe,zbf,zbg,zbh,zbi,zbj,zbk,zbl,zbm,zbn,flat,simple,zbo,zbp,zbq,zbr,zbs,zbt,zbu,zbv,zbw,zbx,zby,zbz,zca,zcb,zcc,zcd,zce,zcf,zcg,zch,zci,zcj,zck,zcl,zcm,zcn,zco,zcp,zcq,zcr,Nat.reduceEqDiff,Nat.reduceLT,Nat.reduceAdd,Nat.reduceSub,reduceIte,Kt_P,zcs,zct,zcu,zcv,zcw,zcx,zcy,zcz,zda,zdb,zdc,zdd,zde,zdf,zdg,zdh,zdi,zdj,zdk,reduceCtorEq,zdl,zdm,zdn,goInt,zdo,zdp,zdq,zdr,zds,zdt,zdu,zdv,zdw,zdx,zdy,zdz,zea,zeb,zec,zed,zdk,zee,zef,zeg,zeh,zei,zej,zek,zel,zem,zen,zeo,zep,zeq,zer,zes,zet,zeu,zev,zew,zex,zey,ya,yb,yc,yd,ye,yf,ts_int,ts_int64,ts_bool,ts_ints,ts_post,ts_posts,yg,yh,yi,yj,yk,yl,ym,ts_intsl,ts_int64s,ts_bools,ts_side,ts_sideb,ts_pints,ts_pbool,aPure,aLen,e9,hil4]) ts_posts' (show its4.length + 1 ≤ _ by simp; omega) rfl fun H5 hn hF hB hch3 => ?_
    obtain ⟨its5, hil5, hG5⟩ := Got.step' hG4 (by omega) hE hr hF hB hch3
    rw [hil4] at hil5
    simp only [zfd,zaa,zab,zac,zad,zae,zaf,zag,zah,zai,zaj,zak,zal,zam,zan,zao,zap,zaq,zar,zas,zat,zau,zav,zaw,zax,zay,zaz,zba,aUn,zbb,zbc,zbd,zbe,zbf,zbg,zbh,zbi,zbj,zbk,zbl,zbm,zbn,flat,simple,zbo,zbp,zbq,zbr,zbs,zbt,zbu,zbv,zbw,zbx,zby,zbz,zca,zcb,zcc,zcd,zce,zcf,zcg,zch,zci,zcj,zck,zcl,zcm,zcn,zco,zcp,zcq,zcr,Nat.reduceEqDiff,Nat.reduceLT,Nat.reduceAdd,Nat.reduceSub,reduceIte,Kt_P,zcs,zct,zcu,zcv,zcw,zcx,zcy,zcz,zda,zdb,zdc,zdd,zde,zdf,zdg,zdh,zdi,zdj,zdk,reduceCtorEq,zdl,zdm,zdn,goInt,zdo,zdp,zdq,zdr,zds,zdt,zdu,zdv,zdw,zdx,zdy,zdz,zea,zeb,zec,zed,zdk,zee,zef,zeg,zeh,zei,zej,zek,zel,zem,zen,zeo,zep,zeq,zer,zes,zet,zeu,zev,zew,zex,zey,ya,yb,yc,yd,ye,yf,ts_int,ts_int64,ts_bool,ts_ints,ts_post,ts_posts,yg,yh,yi,yj,yk,yl,ym,ts_intsl,ts_int64s,ts_bools,ts_side,ts_sideb,ts_pints,ts_pbool,aPure,aLen,y25,ts_posts',e0,e1,e2,e7,e8,e9,e10,hw0,hw1,hw2,hw3,hw4]
    clear hr hE h1 h2 hF hB hch1 hch3 hn
    have hwk : IntKind.i64.wrap ((k : Int) + 1) = ((k + 1 : Nat) : Int) := by rw [wrap_i64 (by omega)]; omega
    simp only [zfd,zaa,zab,zac,zad,zae,zaf,zag,zah,zai,zaj,zak,zal,zam,zan,zao,zap,zaq,zar,zas,zat,zau,zav,zaw,zax,zay,zaz,zba,aUn,zbb,zbc,zbd,zbe,zbf,zbg,zbh,zbi,zbj,zbk,zbl,zbm,zbn,flat,simple,zbo,zbp,zbq,zbr,zbs,zbt,zbu,zbv,zbw,zbx,zby,zbz,zca,zcb,zcc,zcd,zce,zcf,zcg,zch,zci,zcj,zck,zcl,zcm,zcn,zco,zcp,zcq,zcr,Nat.reduceEqDiff,Nat.reduceLT,Nat.reduceAdd,Nat.reduceSub,reduceIte,Kt_P,zcs,zct,zcu,zcv,zcw,zcx,zcy,zcz,zda,zdb,zdc,zdd,zde,zdf,zdg,zdh,zdi,zdj,zdk,reduceCtorEq,zdl,zdm,zdn,goInt,zdo,zdp,zdq,zdr,zds,zdt,zdu,zdv,zdw,zdx,zdy,zdz,zea,zeb,zec,zed,zdk,zee,zef,zeg,zeh,zei,zej,zek,zel,zem,zen,zeo,zep,zeq,zer,zes,zet,zeu,zev,zew,zex,zey,ya,yb,yc,yd,ye,yf,ts_int,ts_int64,ts_bool,ts_ints,ts_post,ts_posts,yg,yh,yi,yj,yk,yl,ym,ts_intsl,ts_int64s,ts_bools,ts_side,ts_sideb,ts_pints,ts_pbool,aPure,aLen,e10,hwk]
    exact ⟨2 - (k + 1), by omega, k + 1, its5, by simp [put_at, e0, e1, e2, e7, e8, e9], rfl, by omega, by omega, hG5⟩
  · have : k = 2 := by omega
    subst this
    simp only [zfd,zaa,zab,zac,zad,zae,zaf,zag,zah,zai,zaj,zak,zal,zam,zan,zao,zap,zaq,zar,zas,zat,zau,zav,zaw,zax,zay,zaz,zba,aUn,zbb,zbc,zbd,zbe,zbf,zbg,zbh,zbi,zbj,zbk,zbl,zbm,zbn,flat,simple,zbo,zbp,zbq,zbr,zbs,zbt,zbu,zbv,zbw,zbx,zby,zbz,zca,zcb,zcc,zcd,zce,zcf,zcg,zch,zci,zcj,zck,zcl,zcm,zcn,zco,zcp,zcq,zcr,Nat.reduceEqDiff,Nat.reduceLT,Nat.reduceAdd,Nat.reduceSub,reduceIte,Kt_P,zcs,zct,zcu,zcv,zcw,zcx,zcy,zcz,zda,zdb,zdc,zdd,zde,zdf,zdg,zdh,zdi,zdj,zdk,reduceCtorEq,zdl,zdm,zdn,goInt,zdo,zdp,zdq,zdr,zds,zdt,zdu,zdv,zdw,zdx,zdy,zdz,zea,zeb,zec,zed,zdk,zee,zef,zeg,zeh,zei,zej,zek,zel,zem,zen,zeo,zep,zeq,zer,zes,zet,zeu,zev,zew,zex,zey,ya,yb,yc,yd,ye,yf,ts_int,ts_int64,ts_bool,ts_ints,ts_post,ts_posts,yg,yh,yi,yj,yk,yl,ym,ts_intsl,ts_int64s,ts_bools,ts_side,ts_sideb,ts_pints,ts_pbool,aPure,aLen,e0,e1,e2,e7,e8,e9]
    replace hil0 : its.length = 10 := hil0
    rw [CalF_cal (Kt_prim (by decide) _ _)]
    refine Cal_ch Kt_ch hG.ch ?_
    refine keptP_ok H va v1 l ua (hL1.fr hG.fr fun b hb hw hc => by omega) ((h1.fr (hE1.trans hE2)).fr hG.fr) _ fun H1 hE3' hch4 => ?_
    replace hG := hG.ext hE3' hch4
    simp only [zfd,zaa,zab,zac,zad,zae,zaf,zag,zah,zai,zaj,zak,zal,zam,zan,zao,zap,zaq,zar,zas,zat,zau,zav,zaw,zax,zay,zaz,zba,aUn,zbb,zbc,zbd,zbe,zbf,zbg,zbh,zbi,zbj,zbk,zbl,zbm,zbn,flat,simple,zbo,zbp,zbq,zbr,zbs,zbt,zbu,zbv,zbw,zbx,zby,zbz,zca,zcb,zcc,zcd,zce,zcf,zcg,zch,zci,zcj,zck,zcl,zcm,zcn,zco,zcp,zcq,zcr,Nat.reduceEqDiff,Nat.reduceLT,Nat.reduceAdd,Nat.reduceSub,reduceIte,Kt_P,zcs,zct,zcu,zcv,zcw,zcx,zcy,zcz,zda,zdb,zdc,zdd,zde,zdf,zdg,zdh,zdi,zdj,zdk,reduceCtorEq,zdl,zdm,zdn,goInt,zdo,zdp,zdq,zdr,zds,zdt,zdu,zdv,zdw,zdx,zdy,zdz,zea,zeb,zec,zed,zdk,zee,zef,zeg,zeh,zei,zej,zek,zel,zem,zen,zeo,zep,zeq,zer,zes,zet,zeu,zev,zew,zex,zey,ya,yb,yc,yd,ye,yf,ts_int,ts_int64,ts_bool,ts_ints,ts_post,ts_posts,yg,yh,yi,yj,yk,yl,ym,ts_intsl,ts_int64s,ts_bools,ts_side,ts_sideb,ts_pints,ts_pbool,aPure,aLen,e0,e1,e2,e7,e8,e9]
    rw [CalF_cal (Kt_prim (by decide) _ _)]
    refine Cal_ch Kt_ch hG.ch ?_
    refine keptP_ok H1 vb v2 m ub (hL2.fr hG.fr fun b hb hw hc => by omega) (((h2.fr hE1).fr hE2).fr hG.fr) _ fun H2 hE4' hch5 => ?_
    replace hG := hG.ext hE4' hch5
    simp only [zfd,zaa,zab,zac,zad,zae,zaf,zag,zah,zai,zaj,zak,zal,zam,zan,zao,zap,zaq,zar,zas,zat,zau,zav,zaw,zax,zay,zaz,zba,aUn,zbb,zbc,zbd,zbe,zbf,zbg,zbh,zbi,zbj,zbk,zbl,zbm,zbn,flat,simple,zbo,zbp,zbq,zbr,zbs,zbt,zbu,zbv,zbw,zbx,zby,zbz,zca,zcb,zcc,zcd,zce,zcf,zcg,zch,zci,zcj,zck,zcl,zcm,zcn,zco,zcp,zcq,zcr,Nat.reduceEqDiff,Nat.reduceLT,Nat.reduceAdd,Nat.reduceSub,reduceIte,Kt_P,zcs,zct,zcu,zcv,zcw,zcx,zcy,zcz,zda,zdb,zdc,zdd,zde,zdf,zdg,zdh,zdi,zdj,zdk,reduceCtorEq,zdl,zdm,zdn,goInt,zdo,zdp,zdq,zdr,zds,zdt,zdu,zdv,zdw,zdx,zdy,zdz,zea,zeb,zec,zed,zdk,zee,zef,zeg,zeh,zei,zej,zek,zel,zem,zen,zeo,zep,zeq,zer,zes,zet,zeu,zev,zew,zex,zey,ya,yb,yc,yd,ye,yf,ts_int,ts_int64,ts_bool,ts_ints,ts_post,ts_posts,yg,yh,yi,yj,yk,yl,ym,ts_intsl,ts_int64s,ts_bools,ts_side,ts_sideb,ts_pints,ts_pbool,aPure,aLen,e0,e1,e2,e7,e8,e9]
    clear hch4 hch5 hE3' hE4' hch3
    have p1 : Posts A2 v1 l := h1.fr (hE1.trans hE2)
    have p2 : Posts A2 v2 m := (h2.fr hE1).fr hE2
    rw [CalF_cal (Kt_prim (by decide) _ _)]
    refine Cal_ch Kt_ch hG.ch ?_
    refine refEither_ok H2 v1 v2 l m  (p1.fr hG.fr) (p2.fr hG.fr) (by omega) (by omega) (big pl) (big pm) _ fun w0 J0 hEJ0 hA hB hch' => ?_
    have hw0 : Posts J0 w0 (resL l m gap 0) := (PRes.r0 hA hB).posts
    replace hG := hG.ext hEJ0 hch'
    obtain ⟨ow0, cw0, hov, _⟩ := hw0.opened
    subst hov
    simp only [zfd,zaa,zab,zac,zad,zae,zaf,zag,zah,zai,zaj,zak,zal,zam,zan,zao,zap,zaq,zar,zas,zat,zau,zav,zaw,zax,zay,zaz,zba,aUn,zbb,zbc,zbd,zbe,zbf,zbg,zbh,zbi,zbj,zbk,zbl,zbm,zbn,flat,simple,zbo,zbp,zbq,zbr,zbs,zbt,zbu,zbv,zbw,zbx,zby,zbz,zca,zcb,zcc,zcd,zce,zcf,zcg,zch,zci,zcj,zck,zcl,zcm,zcn,zco,zcp,zcq,zcr,Nat.reduceEqDiff,Nat.reduceLT,Nat.reduceAdd,Nat.reduceSub,reduceIte,Kt_P,zcs,zct,zcu,zcv,zcw,zcx,zcy,zcz,zda,zdb,zdc,zdd,zde,zdf,zdg,zdh,zdi,zdj,zdk,reduceCtorEq,zdl,zdm,zdn,goInt,zdo,zdp,zdq,zdr,zds,zdt,zdu,zdv,zdw,zdx,zdy,zdz,zea,zeb,zec,zed,zdk,zee,zef,zeg,zeh,zei,zej,zek,zel,zem,zen,zeo,zep,zeq,zer,zes,zet,zeu,zev,zew,zex,zey,ya,yb,yc,yd,ye,yf,ts_int,ts_int64,ts_bool,ts_ints,ts_post,ts_posts,yg,yh,yi,yj,yk,yl,ym,ts_intsl,ts_int64s,ts_bools,ts_side,ts_sideb,ts_pints,ts_pbool,aPure,aLen,e0,e1,e2,e7,e8,e9]
    clear hA hB hch'
    rw [CalF_cal (Kt_prim (by decide) _ _)]
    refine Cal_ch Kt_ch hG.ch ?_
    refine refBoth_ok J0 v1 v2 l m  (p1.fr hG.fr) (p2.fr hG.fr) (by omega) (by omega) (big pl) (big pm) _ fun w1 J1 hEJ1 hA hB hch' => ?_
    have hw1 : Posts J1 w1 (resL l m gap 1) := (PRes.r1 hA hB).posts
    replace hG := hG.ext hEJ1 hch'
    obtain ⟨ow1, cw1, hov, _⟩ := hw1.opened
    subst hov
    simp only [zfd,zaa,zab,zac,zad,zae,zaf,zag,zah,zai,zaj,zak,zal,zam,zan,zao,zap,zaq,zar,zas,zat,zau,zav,zaw,zax,zay,zaz,zba,aUn,zbb,zbc,zbd,zbe,zbf,zbg,zbh,zbi,zbj,zbk,zbl,zbm,zbn,flat,simple,zbo,zbp,zbq,zbr,zbs,zbt,zbu,zbv,zbw,zbx,zby,zbz,zca,zcb,zcc,zcd,zce,zcf,zcg,zch,zci,zcj,zck,zcl,zcm,zcn,zco,zcp,zcq,zcr,Nat.reduceEqDiff,Nat.reduceLT,Nat.reduceAdd,Nat.reduceSub,reduceIte,Kt_P,zcs,zct,zcu,zcv,zcw,zcx,zcy,zcz,zda,zdb,zdc,zdd,zde,zdf,zdg,zdh,zdi,zdj,zdk,reduceCtorEq,zdl,zdm,zdn,goInt,zdo,zdp,zdq,zdr,zds,zdt,zdu,zdv,zdw,zdx,zdy,zdz,zea,zeb,zec,zed,zdk,zee,zef,zeg,zeh,zei,zej,zek,zel,zem,zen,zeo,zep,zeq,zer,zes,zet,zeu,zev,zew,zex,zey,ya,yb,yc,yd,ye,yf,ts_int,ts_int64,ts_bool,ts_ints,ts_post,ts_posts,yg,yh,yi,yj,yk,yl,ym,ts_intsl,ts_int64s,ts_bools,ts_side,ts_sideb,ts_pints,ts_pbool,aPure,aLen,e0,e1,e2,e7,e8,e9]
    clear hA hB hch'
    rw [CalF_cal (Kt_prim (by decide) _ _)]
    refine Cal_ch Kt_ch hG.ch ?_
    refine refLess_ok J1 v1 v2 l m  (p1.fr hG.fr) (p2.fr hG.fr) (by omega) (by omega) (big pl) (big pm) _ fun w2 J2 hEJ2 hA hB hch' => ?_
    have hw2 : Posts J2 w2 (resL l m gap 2) := (PRes.r2 hA hB).posts
    replace hG := hG.ext hEJ2 hch'
    obtain ⟨ow2, cw2, hov, _⟩ := hw2.opened
    subst hov
    simp only [zfd,zaa,zab,zac,zad,zae,zaf,zag,zah,zai,zaj,zak,zal,zam,zan,zao,zap,zaq,zar,zas,zat,zau,zav,zaw,zax,zay,zaz,zba,aUn,zbb,zbc,zbd,zbe,zbf,zbg,zbh,zbi,zbj,zbk,zbl,zbm,zbn,flat,simple,zbo,zbp,zbq,zbr,zbs,zbt,zbu,zbv,zbw,zbx,zby,zbz,zca,zcb,zcc,zcd,zce,zcf,zcg,zch,zci,zcj,zck,zcl,zcm,zcn,zco,zcp,zcq,zcr,Nat.reduceEqDiff,Nat.reduceLT,Nat.reduceAdd,Nat.reduceSub,reduceIte,Kt_P,zcs,zct,zcu,zcv,zcw,zcx,zcy,zcz,zda,zdb,zdc,zdd,zde,zdf,zdg,zdh,zdi,zdj,zdk,reduceCtorEq,zdl,zdm,zdn,goInt,zdo,zdp,zdq,zdr,zds,zdt,zdu,zdv,zdw,zdx,zdy,zdz,zea,zeb,zec,zed,zdk,zee,zef,zeg,zeh,zei,zej,zek,zel,zem,zen,zeo,zep,zeq,zer,zes,zet,zeu,zev,zew,zex,zey,ya,yb,yc,yd,ye,yf,ts_int,ts_int64,ts_bool,ts_ints,ts_post,ts_posts,yg,yh,yi,yj,yk,yl,ym,ts_intsl,ts_int64s,ts_bools,ts_side,ts_sideb,ts_pints,ts_pbool,aPure,aLen,e0,e1,e2,e7,e8,e9]
    clear hA hB hch'
    rw [CalF_cal (Kt_prim (by decide) _ _)]
    refine Cal_ch Kt_ch hG.ch ?_
    refine refLess_ok J2 v2 v1 m l  (p2.fr hG.fr) (p1.fr hG.fr) (by omega) (by omega) (big pm) (big pl) _ fun w3 J3 hEJ3 hA hB hch' => ?_
    have hw3 : Posts J3 w3 (resL l m gap 3) := (PRes.r3 hA hB).posts
    replace hG := hG.ext hEJ3 hch'
    obtain ⟨ow3, cw3, hov, _⟩ := hw3.opened
    subst hov
    simp only [zfd,zaa,zab,zac,zad,zae,zaf,zag,zah,zai,zaj,zak,zal,zam,zan,zao,zap,zaq,zar,zas,zat,zau,zav,zaw,zax,zay,zaz,zba,aUn,zbb,zbc,zbd,zbe,zbf,zbg,zbh,zbi,zbj,zbk,zbl,zbm,zbn,flat,simple,zbo,zbp,zbq,zbr,zbs,zbt,zbu,zbv,zbw,zbx,zby,zbz,zca,zcb,zcc,zcd,zce,zcf,zcg,zch,zci,zcj,zck,zcl,zcm,zcn,zco,zcp,zcq,zcr,Nat.reduceEqDiff,Nat.reduceLT,Nat.reduceAdd,Nat.reduceSub,reduceIte,Kt_P,zcs,zct,zcu,zcv,zcw,zcx,zcy,zcz,zda,zdb,zdc,zdd,zde,zdf,zdg,zdh,zdi,zdj,zdk,reduceCtorEq,zdl,zdm,zdn,goInt,zdo,zdp,zdq,zdr,zds,zdt,zdu,zdv,zdw,zdx,zdy,zdz,zea,zeb,zec,zed,zdk,zee,zef,zeg,zeh,zei,zej,zek,zel,zem,zen,zeo,zep,zeq,zer,zes,zet,zeu,zev,zew,zex,zey,ya,yb,yc,yd,ye,yf,ts_int,ts_int64,ts_bool,ts_ints,ts_post,ts_posts,yg,yh,yi,yj,yk,yl,ym,ts_intsl,ts_int64s,ts_bools,ts_side,ts_sideb,ts_pints,ts_pbool,aPure,aLen,e0,e1,e2,e7,e8,e9]
    clear hA hB hch'
    rw [CalF_cal (Kt_prim (by decide) _ _)]
    refine Cal_ch Kt_ch hG.ch ?_
    refine refFollow_ok J3 v1 v2 l m gap (p1.fr hG.fr) (p2.fr hG.fr) (by omega) (by omega) (big pl) (big pm) _ fun w4 J4 hEJ4 hA hB hch' => ?_
    have hw4 : Posts J4 w4 (resL l m gap 4) := (PRes.r4 hA hB).posts
    replace hG := hG.ext hEJ4 hch'
    obtain ⟨ow4, cw4, hov, _⟩ := hw4.opened
    subst hov
    simp only [zfd,zaa,zab,zac,zad,zae,zaf,zag,zah,zai,zaj,zak,zal,zam,zan,zao,zap,zaq,zar,zas,zat,zau,zav,zaw,zax,zay,zaz,zba,aUn,zbb,zbc,zbd,zbe,zbf,zbg,zbh,zbi,zbj,zbk,zbl,zbm,zbn,flat,simple,zbo,zbp,zbq,zbr,zbs,zbt,zbu,zbv,zbw,zbx,zby,zbz,zca,zcb,zcc,zcd,zce,zcf,zcg,zch,zci,zcj,zck,zcl,zcm,zcn,zco,zcp,zcq,zcr,Nat.reduceEqDiff,Nat.reduceLT,Nat.reduceAdd,Nat.reduceSub,reduceIte,Kt_P,zcs,zct,zcu,zcv,zcw,zcx,zcy,zcz,zda,zdb,zdc,zdd,zde,zdf,zdg,zdh,zdi,zdj,zdk,reduceCtorEq,zdl,zdm,zdn,goInt,zdo,zdp,zdq,zdr,zds,zdt,zdu,zdv,zdw,zdx,zdy,zdz,zea,zeb,zec,zed,zdk,zee,zef,zeg,zeh,zei,zej,zek,zel,zem,zen,zeo,zep,zeq,zer,zes,zet,zeu,zev,zew,zex,zey,ya,yb,yc,yd,ye,yf,ts_int,ts_int64,ts_bool,ts_ints,ts_post,ts_posts,yg,yh,yi,yj,yk,yl,ym,ts_intsl,ts_int64s,ts_bools,ts_side,ts_sideb,ts_pints,ts_pbool,aPure,aLen,e0,e1,e2,e7,e8,e9]
    clear hA hB hch'
    simp only [zfd,zaa,zab,zac,zad,zae,zaf,zag,zah,zai,zaj,zak,zal,zam,zan,zao,zap,zaq,zar,zas,zat,zau,zav,zaw,zax,zay,zaz,zba,aUn,zbb,zbc,zbd,zbe,zbf,zbg,zbh,zbi,zbj,zbk,zbl,zbm,zbn,flat,simple,zbo,zbp,zbq,zbr,zbs,zbt,zbu,zbv,zbw,zbx,zby,zbz,zca,zcb,zcc,zcd,zce,zcf,zcg,zch,zci,zcj,zck,zcl,zcm,zcn,zco,zcp,zcq,zcr,Nat.reduceEqDiff,Nat.reduceLT,Nat.reduceAdd,Nat.reduceSub,reduceIte,Kt_P,zcs,zct,zcu,zcv,zcw,zcx,zcy,zcz,zda,zdb,zdc,zdd,zde,zdf,zdg,zdh,zdi,zdj,zdk,reduceCtorEq,zdl,zdm,zdn,goInt,zdo,zdp,zdq,zdr,zds,zdt,zdu,zdv,zdw,zdx,zdy,zdz,zea,zeb,zec,zed,zdk,zee,zef,zeg,zeh,zei,zej,zek,zel,zem,zen,zeo,zep,zeq,zer,zes,zet,zeu,zev,zew,zex,zey,ya,yb,yc,yd,ye,yf,ts_int,ts_int64,ts_bool,ts_ints,ts_post,ts_posts,yg,yh,yi,yj,yk,yl,ym,ts_intsl,ts_int64s,ts_bools,ts_side,ts_sideb,ts_pints,ts_pbool,aPure,aLen,build_5]
    have hgl := hG.box.1
    have hgl2 := hG.fr.next
    refine OpW_ch Kt_ch hG.ch ?_
    refine OpW_alloc_of ts_29 tz_29 (by decide) fun wb J5 hb5 hn5 hE5 hB5 hch5 => ?_
    replace hG := hG.ext hE5 hch5
    simp only [zfd,zaa,zab,zac,zad,zae,zaf,zag,zah,zai,zaj,zak,zal,zam,zan,zao,zap,zaq,zar,zas,zat,zau,zav,zaw,zax,zay,zaz,zba,aUn,zbb,zbc,zbd,zbe,zbf,zbg,zbh,zbi,zbj,zbk,zbl,zbm,zbn,flat,simple,zbo,zbp,zbq,zbr,zbs,zbt,zbu,zbv,zbw,zbx,zby,zbz,zca,zcb,zcc,zcd,zce,zcf,zcg,zch,zci,zcj,zck,zcl,zcm,zcn,zco,zcp,zcq,zcr,Nat.reduceEqDiff,Nat.reduceLT,Nat.reduceAdd,Nat.reduceSub,reduceIte,Kt_P,zcs,zct,zcu,zcv,zcw,zcx,zcy,zcz,zda,zdb,zdc,zdd,zde,zdf,zdg,zdh,zdi,zdj,zdk,reduceCtorEq,zdl,zdm,zdn,goInt,zdo,zdp,zdq,zdr,zds,zdt,zdu,zdv,zdw,zdx,zdy,zdz,zea,zeb,zec,zed,zdk,zee,zef,zeg,zeh,zei,zej,zek,zel,zem,zen,zeo,zep,zeq,zer,zes,zet,zeu,zev,zew,zex,zey,ya,yb,yc,yd,ye,yf,ts_int,ts_int64,ts_bool,ts_ints,ts_post,ts_posts,yg,yh,yi,yj,yk,yl,ym,ts_intsl,ts_int64s,ts_bools,ts_side,ts_sideb,ts_pints,ts_pbool,aPure,aLen]
    refine OpW_ch Kt_ch hG.ch ?_
    refine OpW_store_of (o := 0) hB5 ⟨rfl, rfl⟩ (by simp only [zfd,zaa,zab,zac,zad,zae,zaf,zag,zah,zai,zaj,zak,zal,zam,zan,zao,zap,zaq,zar,zas,zat,zau,zav,zaw,zax,zay,zaz,zba,aUn,zbb,zbc,zbd,zbe,zbf,zbg,zbh,zbi,zbj,zbk,zbl,zbm,zbn,flat,simple,zbo,zbp,zbq,zbr,zbs,zbt,zbu,zbv,zbw,zbx,zby,zbz,zca,zcb,zcc,zcd,zce,zcf,zcg,zch,zci,zcj,zck,zcl,zcm,zcn,zco,zcp,zcq,zcr,Nat.reduceEqDiff,Nat.reduceLT,Nat.reduceAdd,Nat.reduceSub,reduceIte,Kt_P,zcs,zct,zcu,zcv,zcw,zcx,zcy,zcz,zda,zdb,zdc,zdd,zde,zdf,zdg,zdh,zdi,zdj,zdk,reduceCtorEq,zdl,zdm,zdn,goInt,zdo,zdp,zdq,zdr,zds,zdt,zdu,zdv,zdw,zdx,zdy,zdz,zea,zeb,zec,zed,zdk,zee,zef,zeg,zeh,zei,zej,zek,zel,zem,zen,zeo,zep,zeq,zer,zes,zet,zeu,zev,zew,zex,zey,ya,yb,yc,yd,ye,yf,ts_int,ts_int64,ts_bool,ts_ints,ts_post,ts_posts,yg,yh,yi,yj,yk,yl,ym,ts_intsl,ts_int64s,ts_bools,ts_side,ts_sideb,ts_pints,ts_pbool,aPure,aLen]) ts_29 (Nat.le_refl _) rfl fun J6 hn6 hF6 hB6 hch6 => ?_
    replace hG := hG.move hF6 (fun x hx => ⟨by omega, by omega⟩) (fun x _ hx => by subst hx; exact ⟨_, _, hB5⟩) hch6
    obtain ⟨ws, hwl, hBw, hW⟩ : ∃ ws : List Value, ws.length = 5 ∧ Box J6 wb 29 ws ∧ ∀ i (h : i < ws.length), Posts J6 ws[i] (resL l m gap i) := by
      refine ⟨[.slice ow0 (resL l m gap 0).length cw0, .slice ow1 (resL l m gap 1).length cw1, .slice ow2 (resL l m gap 2).length cw2, .slice ow3 (resL l m gap 3).length cw3, .slice ow4 (resL l m gap 4).length cw4], rfl, hB6, fun i h => ?_⟩
      match i, h with
      | 0, h => exact ((hw0.fr (((hEJ1.trans hEJ2).trans hEJ3).trans hEJ4)).fr hE5).fr hF6
      | 1, h => exact ((hw1.fr ((hEJ2.trans hEJ3).trans hEJ4)).fr hE5).fr hF6
      | 2, h => exact ((hw2.fr (hEJ3.trans hEJ4)).fr hE5).fr hF6
      | 3, h => exact ((hw3.fr hEJ4).fr hE5).fr hF6
      | 4, h => exact (hw4.fr hE5).fr hF6
      | i + 5, h => exact absurd (show i + 5 < 5 from h) (by omega)
    clear hw0 hw1 hw2 hw3 hw4 hEJ0 hEJ1 hEJ2 hEJ3 hEJ4 hB6 hF6 hE5 hB5 hB3 hG0
    have hwbl := hBw.1
    simp only [zfd,zaa,zab,zac,zad,zae,zaf,zag,zah,zai,zaj,zak,zal,zam,zan,zao,zap,zaq,zar,zas,zat,zau,zav,zaw,zax,zay,zaz,zba,aUn,zbb,zbc,zbd,zbe,zbf,zbg,zbh,zbi,zbj,zbk,zbl,zbm,zbn,flat,simple,zbo,zbp,zbq,zbr,zbs,zbt,zbu,zbv,zbw,zbx,zby,zbz,zca,zcb,zcc,zcd,zce,zcf,zcg,zch,zci,zcj,zck,zcl,zcm,zcn,zco,zcp,zcq,zcr,Nat.reduceEqDiff,Nat.reduceLT,Nat.reduceAdd,Nat.reduceSub,reduceIte,Kt_P,zcs,zct,zcu,zcv,zcw,zcx,zcy,zcz,zda,zdb,zdc,zdd,zde,zdf,zdg,zdh,zdi,zdj,zdk,reduceCtorEq,zdl,zdm,zdn,goInt,zdo,zdp,zdq,zdr,zds,zdt,zdu,zdv,zdw,zdx,zdy,zdz,zea,zeb,zec,zed,zdk,zee,zef,zeg,zeh,zei,zej,zek,zel,zem,zen,zeo,zep,zeq,zer,zes,zet,zeu,zev,zew,zex,zey,ya,yb,yc,yd,ye,yf,ts_int,ts_int64,ts_bool,ts_ints,ts_post,ts_posts,yg,yh,yi,yj,yk,yl,ym,ts_intsl,ts_int64s,ts_bools,ts_side,ts_sideb,ts_pints,ts_pbool,aPure,aLen]
    refine OpW_ch Kt_ch hG.ch ?_
    refine OpW_alloc_of ts_bk tz_bk (by decide) fun bk J7 hb7 hn7 hE7 hB7 hch7 => ?_
    have hBk : BookAt J6.next J7 bk [] [] nilS nilS := ⟨hB7, by omega, ⟨rfl, .inl ⟨rfl, rfl⟩⟩, fun b h => h.elim, ⟨rfl, .inl ⟨rfl, rfl⟩⟩, fun b h => h.elim⟩
    simp only [zfd,zaa,zab,zac,zad,zae,zaf,zag,zah,zai,zaj,zak,zal,zam,zan,zao,zap,zaq,zar,zas,zat,zau,zav,zaw,zax,zay,zaz,zba,aUn,zbb,zbc,zbd,zbe,zbf,zbg,zbh,zbi,zbj,zbk,zbl,zbm,zbn,flat,simple,zbo,zbp,zbq,zbr,zbs,zbt,zbu,zbv,zbw,zbx,zby,zbz,zca,zcb,zcc,zcd,zce,zcf,zcg,zch,zci,zcj,zck,zcl,zcm,zcn,zco,zcp,zcq,zcr,Nat.reduceEqDiff,Nat.reduceLT,Nat.reduceAdd,Nat.reduceSub,reduceIte,Kt_P,zcs,zct,zcu,zcv,zcw,zcx,zcy,zcz,zda,zdb,zdc,zdd,zde,zdf,zdg,zdh,zdi,zdj,zdk,reduceCtorEq,zdl,zdm,zdn,goInt,zdo,zdp,zdq,zdr,zds,zdt,zdu,zdv,zdw,zdx,zdy,zdz,zea,zeb,zec,zed,zdk,zee,zef,zeg,zeh,zei,zej,zek,zel,zem,zen,zeo,zep,zeq,zer,zes,zet,zeu,zev,zew,zex,zey,ya,yb,yc,yd,ye,yf,ts_int,ts_int64,ts_bool,ts_ints,ts_post,ts_posts,yg,yh,yi,yj,yk,yl,ym,ts_intsl,ts_int64s,ts_bools,ts_side,ts_sideb,ts_pints,ts_pbool,aPure,aLen,e7,e8,e9]
    have hus : ∀ t ∈ its, t.us.length ≤ 8192 := fun t ht => by
      obtain ⟨i, hi, rfl⟩ := List.getElem_of_mem ht
      rw [(hG.rd i hi).2.2]
      exact (hG.bd _).1
    refine Lop_inv (fun k' e H => ∃ (k : Nat) (iv pv : Value), (e 7 = va ∧ e 8 = vb ∧ e 9 = .pointer (some ⟨g, 0, none⟩) ∧ e 11 = .pointer (some ⟨wb, 0, none⟩) ∧ e 12 = .pointer (some ⟨bk, 0, none⟩) ∧ e 13 = .int .i64 k) ∧ k' = 10 - k ∧ k ≤ 10 ∧ ChOK A H ∧
        Fr (fun x => J6.next ≤ x) J6 H ∧ BookAt J6.next H bk ((its.take k).flatMap (·.us)) ((its.take k).map (·.v)) iv pv)
      ?_ 10 _ _ ⟨0, nilS, nilS, by simp [put_at, e7, e8, e9], by simp, by simp, hch7, hE7.fr, hBk⟩
    clear hch7 hE7 hBk hB7 e0 e1 e2 e7 e8 e9 e10
    rintro k' e H' ⟨k, iv, pv, ⟨e7, e8, e9, e11, e12, e13⟩, rfl, hk, hchH, hFH, hBk⟩
    simp only [zfd,zaa,zab,zac,zad,zae,zaf,zag,zah,zai,zaj,zak,zal,zam,zan,zao,zap,zaq,zar,zas,zat,zau,zav,zaw,zax,zay,zaz,zba,aUn,zbb,zbc,zbd,zbe,zbf,zbg,zbh,zbi,zbj,zbk,zbl,zbm,zbn,flat,simple,zbo,zbp,zbq,zbr,zbs,zbt,zbu,zbv,zbw,zbx,zby,zbz,zca,zcb,zcc,zcd,zce,zcf,zcg,zch,zci,zcj,zck,zcl,zcm,zcn,zco,zcp,zcq,zcr,Nat.reduceEqDiff,Nat.reduceLT,Nat.reduceAdd,Nat.reduceSub,reduceIte,Kt_P,zcs,zct,zcu,zcv,zcw,zcx,zcy,zcz,zda,zdb,zdc,zdd,zde,zdf,zdg,zdh,zdi,zdj,zdk,reduceCtorEq,zdl,zdm,zdn,goInt,zdo,zdp,zdq,zdr,zds,zdt,zdu,zdv,zdw,zdx,zdy,zdz,zea,zeb,zec,zed,zdk,zee,zef,zeg,zeh,zei,zej,zek,zel,zem,zen,zeo,zep,zeq,zer,zes,zet,zeu,zev,zew,zex,zey,ya,yb,yc,yd,ye,yf,ts_int,ts_int64,ts_bool,ts_ints,ts_post,ts_posts,yg,yh,yi,yj,yk,yl,ym,ts_intsl,ts_int64s,ts_bools,ts_side,ts_sideb,ts_pints,ts_pbool,aPure,aLen,e13]
    refine Way_of (fun hlt => ?_) (fun hge => ?_)
    · have hlt' : k < 10 := by omega
      have hki : k < its.length := by omega
      have hbg : Box H' g 25 (its.map (·.v) ++ List.replicate (10 - its.length) nilS) := hFH.box hG.box fun h => by omega
      have hbw : Box H' wb 29 ws := hFH.box hBw fun h => by omega
      have lg : aLoadVar Tryz.prog H' 22 (.pointer (some ⟨g, k, none⟩)) = some its[k].v := hbg.load Tryz.underlying22 rfl (by rw [List.getElem?_append_left (by simpa using hki)]; simp [hki])
      have lw : aLoadVar Tryz.prog H' 22 (.pointer (some ⟨wb, k % 5, none⟩)) = some (ws[k % 5]'(by omega)) := hbw.load Tryz.underlying22 rfl (by rw [List.getElem?_eq_getElem (by omega)])
      have hl10 : ((k : Nat) : Int) < 10 := by omega
      have hl5 : ((k % 5 : Nat) : Int) < ((5 : Nat) : Int) := by omega
      have htm : (k : Int).tmod 5 = ((k % 5 : Nat) : Int) := rfl
      have h50 : ((5 : Int) = 0) = False := eq_false (by decide)
      have hl5' : k % 5 < 5 := by omega
      simp only [zfd,zaa,zab,zac,zad,zae,zaf,zag,zah,zai,zaj,zak,zal,zam,zan,zao,zap,zaq,zar,zas,zat,zau,zav,zaw,zax,zay,zaz,zba,aUn,zbb,zbc,zbd,zbe,zbf,zbg,zbh,zbi,zbj,zbk,zbl,zbm,zbn,flat,simple,zbo,zbp,zbq,zbr,zbs,zbt,zbu,zbv,zbw,zbx,zby,zbz,zca,zcb,zcc,zcd,zce,zcf,zcg,zch,zci,zcj,zck,zcl,zcm,zcn,zco,zcp,zcq,zcr,Nat.reduceEqDiff,Nat.reduceLT,Nat.reduceAdd,Nat.reduceSub,reduceIte,Kt_P,zcs,zct,zcu,zcv,zcw,zcx,zcy,zcz,zda,zdb,zdc,zdd,zde,zdf,zdg,zdh,zdi,zdj,zdk,reduceCtorEq,zdl,zdm,zdn,goInt,zdo,zdp,zdq,zdr,zds,zdt,zdu,zdv,zdw,zdx,zdy,zdz,zea,zeb,zec,zed,zdk,zee,zef,zeg,zeh,zei,zej,zek,zel,zem,zen,zeo,zep,zeq,zer,zes,zet,zeu,zev,zew,zex,zey,ya,yb,yc,yd,ye,yf,ts_int,ts_int64,ts_bool,ts_ints,ts_post,ts_posts,yg,yh,yi,yj,yk,yl,ym,ts_intsl,ts_int64s,ts_bools,ts_side,ts_sideb,ts_pints,ts_pbool,aPure,aLen,e7,e8,e9,e11,e12,e13]
      rw [Cod_draw (by kernel_rfl) (by kernel_rfl)]
      simp only [zfd,zaa,zab,zac,zad,zae,zaf,zag,zah,zai,zaj,zak,zal,zam,zan,zao,zap,zaq,zar,zas,zat,zau,zav,zaw,zax,zay,zaz,zba,aUn,zbb,zbc,zbd,zbe,zbf,zbg,zbh,zbi,zbj,zbk,zbl,zbm,zbn,flat,simple,zbo,zbp,zbq,zbr,zbs,zbt,zbu,zbv,zbw,zbx,zby,zbz,zca,zcb,zcc,zcd,zce,zcf,zcg,zch,zci,zcj,zck,zcl,zcm,zcn,zco,zcp,zcq,zcr,Nat.reduceEqDiff,Nat.reduceLT,Nat.reduceAdd,Nat.reduceSub,reduceIte,Kt_P,zcs,zct,zcu,zcv,zcw,zcx,zcy,zcz,zda,zdb,zdc,zdd,zde,zdf,zdg,zdh,zdi,zdj,zdk,reduceCtorEq,zdl,zdm,zdn,goInt,zdo,zdp,zdq,zdr,zds,zdt,zdu,zdv,zdw,zdx,zdy,zdz,zea,zeb,zec,zed,zdk,zee,zef,zeg,zeh,zei,zej,zek,zel,zem,zen,zeo,zep,zeq,zer,zes,zet,zeu,zev,zew,zex,zey,ya,yb,yc,yd,ye,yf,ts_int,ts_int64,ts_bool,ts_ints,ts_post,ts_posts,yg,yh,yi,yj,yk,yl,ym,ts_intsl,ts_int64s,ts_bools,ts_side,ts_sideb,ts_pints,ts_pbool,aPure,aLen,y25,y29,ts_posts',e7,e8,e9,e11,e12,e13,hl10,hl5,hl5',hlt',lg,lw,htm,h50]
      obtain ⟨r1, r2, r3⟩ := hG.rd k hki
      rw [CalF_cal (Kt_prim (by decide) _ _)]
      refine Cal_ch Kt_ch hchH ?_
      refine sameP_ok H' its[k].v (ws[k % 5]'(by omega)) (resL l m gap (k % 5)) (resL l m gap (k % 5)) (r2.fr hFH) ((hW (k % 5) (by omega)).fr hFH) _ fun _ => ?_
      have hdec : decide (resL l m gap (k % 5) = resL l m gap (k % 5)) = true := decide_eq_true rfl
      simp only [zfd,zaa,zab,zac,zad,zae,zaf,zag,zah,zai,zaj,zak,zal,zam,zan,zao,zap,zaq,zar,zas,zat,zau,zav,zaw,zax,zay,zaz,zba,aUn,zbb,zbc,zbd,zbe,zbf,zbg,zbh,zbi,zbj,zbk,zbl,zbm,zbn,flat,simple,zbo,zbp,zbq,zbr,zbs,zbt,zbu,zbv,zbw,zbx,zby,zbz,zca,zcb,zcc,zcd,zce,zcf,zcg,zch,zci,zcj,zck,zcl,zcm,zcn,zco,zcp,zcq,zcr,Nat.reduceEqDiff,Nat.reduceLT,Nat.reduceAdd,Nat.reduceSub,reduceIte,Kt_P,zcs,zct,zcu,zcv,zcw,zcx,zcy,zcz,zda,zdb,zdc,zdd,zde,zdf,zdg,zdh,zdi,zdj,zdk,reduceCtorEq,zdl,zdm,zdn,goInt,zdo,zdp,zdq,zdr,zds,zdt,zdu,zdv,zdw,zdx,zdy,zdz,zea,zeb,zec,zed,zdk,zee,zef,zeg,zeh,zei,zej,zek,zel,zem,zen,zeo,zep,zeq,zer,zes,zet,zeu,zev,zew,zex,zey,ya,yb,yc,yd,ye,yf,ts_int,ts_int64,ts_bool,ts_ints,ts_post,ts_posts,yg,yh,yi,yj,yk,yl,ym,ts_intsl,ts_int64s,ts_bools,ts_side,ts_sideb,ts_pints,ts_pbool,aPure,aLen,y25,y29,ts_posts',e7,e8,e9,e11,e12,e13,hl10,hl5,hl5',hlt',lg,lw,htm,h50,hdec]
      rw [CalF_cal (Kt_prim (by decide) _ _)]
      refine Cal_ch Kt_ch hchH ?_
      have hub := us_bound (its.take k) (N := 8192) fun t ht => hus t (List.mem_of_mem_take ht)
      have htk : (its.take k).length = k := by rw [List.length_take]; omega
      have hJH := hFH.next
      refine bPosts_ok J6.next H' bk _ _ iv pv its[k].v _ its[k].us hBk hJH (r1.dk hFH.dat) (by rw [htk] at hub; have := hus _ (List.getElem_mem hki); omega) (by rw [List.length_map]; omega) _ fun A' iv' pv' hF' hBk' hch' => ?_
      have hwk : IntKind.i64.wrap ((k : Int) + 1) = ((k + 1 : Nat) : Int) := by rw [wrap_i64 (by omega)]; omega
      simp only [zfd,zaa,zab,zac,zad,zae,zaf,zag,zah,zai,zaj,zak,zal,zam,zan,zao,zap,zaq,zar,zas,zat,zau,zav,zaw,zax,zay,zaz,zba,aUn,zbb,zbc,zbd,zbe,zbf,zbg,zbh,zbi,zbj,zbk,zbl,zbm,zbn,flat,simple,zbo,zbp,zbq,zbr,zbs,zbt,zbu,zbv,zbw,zbx,zby,zbz,zca,zcb,zcc,zcd,zce,zcf,zcg,zch,zci,zcj,zck,zcl,zcm,zcn,zco,zcp,zcq,zcr,Nat.reduceEqDiff,Nat.reduceLT,Nat.reduceAdd,Nat.reduceSub,reduceIte,Kt_P,zcs,zct,zcu,zcv,zcw,zcx,zcy,zcz,zda,zdb,zdc,zdd,zde,zdf,zdg,zdh,zdi,zdj,zdk,reduceCtorEq,zdl,zdm,zdn,goInt,zdo,zdp,zdq,zdr,zds,zdt,zdu,zdv,zdw,zdx,zdy,zdz,zea,zeb,zec,zed,zdk,zee,zef,zeg,zeh,zei,zej,zek,zel,zem,zen,zeo,zep,zeq,zer,zes,zet,zeu,zev,zew,zex,zey,ya,yb,yc,yd,ye,yf,ts_int,ts_int64,ts_bool,ts_ints,ts_post,ts_posts,yg,yh,yi,yj,yk,yl,ym,ts_intsl,ts_int64s,ts_bools,ts_side,ts_sideb,ts_pints,ts_pbool,aPure,aLen,e13,hwk]
      refine ⟨10 - (k + 1), by omega, k + 1, iv', pv', by simp [put_at, e7, e8, e9, e11, e12], rfl, by omega, hch', Fr.trans hFH hF' fun _ _ h => h, ?_⟩
      rw [List.take_succ_eq_append_getElem hki, List.flatMap_append, List.map_append]
      simpa using hBk'
    · have : k = 10 := by omega
      subst this
      rw [List.take_of_length_le (by omega)] at hBk
      have hub := us_bound its hus
      have hLa : LPosts (fun b => b < A1.next) H' va l ua := hL1.fr (Fr.trans hG.fr hFH fun x _ h => by have := hG.fr.next; omega) fun b hb hw hc => by have := hE2.next; omega
      have hLb : LPosts (fun b => b < A2.next) H' vb m ub := hL2.fr (Fr.trans hG.fr hFH fun x _ h => by have := hG.fr.next; omega) fun b hb hw hc => by omega
      have hua : ua.length = l.length := by obtain ⟨_, _, h, _⟩ := hLa; exact h.1
      have hubl : ub.length = m.length := by obtain ⟨_, _, h, _⟩ := hLb; exact h.1
      have hJH := hFH.next
      simp only [zfd,zaa,zab,zac,zad,zae,zaf,zag,zah,zai,zaj,zak,zal,zam,zan,zao,zap,zaq,zar,zas,zat,zau,zav,zaw,zax,zay,zaz,zba,aUn,zbb,zbc,zbd,zbe,zbf,zbg,zbh,zbi,zbj,zbk,zbl,zbm,zbn,flat,simple,zbo,zbp,zbq,zbr,zbs,zbt,zbu,zbv,zbw,zbx,zby,zbz,zca,zcb,zcc,zcd,zce,zcf,zcg,zch,zci,zcj,zck,zcl,zcm,zcn,zco,zcp,zcq,zcr,Nat.reduceEqDiff,Nat.reduceLT,Nat.reduceAdd,Nat.reduceSub,reduceIte,Kt_P,zcs,zct,zcu,zcv,zcw,zcx,zcy,zcz,zda,zdb,zdc,zdd,zde,zdf,zdg,zdh,zdi,zdj,zdk,reduceCtorEq,zdl,zdm,zdn,goInt,zdo,zdp,zdq,zdr,zds,zdt,zdu,zdv,zdw,zdx,zdy,zdz,zea,zeb,zec,zed,zdk,zee,zef,zeg,zeh,zei,zej,zek,zel,zem,zen,zeo,zep,zeq,zer,zes,zet,zeu,zev,zew,zex,zey,ya,yb,yc,yd,ye,yf,ts_int,ts_int64,ts_bool,ts_ints,ts_post,ts_posts,yg,yh,yi,yj,yk,yl,ym,ts_intsl,ts_int64s,ts_bools,ts_side,ts_sideb,ts_pints,ts_pbool,aPure,aLen,e7,e8,e12]
      rw [CalF_cal (Kt_prim (by decide) _ _)]
      refine Cal_ch Kt_ch hchH ?_
      refine bPosts_ok J6.next H' bk _ _ iv pv va _ ua hBk hJH hLa.rd (by omega) (by rw [List.length_map]; omega) _ fun H3 iv3 pv3 hF3 hBk3 hch3 => ?_
      simp only [zfd,zaa,zab,zac,zad,zae,zaf,zag,zah,zai,zaj,zak,zal,zam,zan,zao,zap,zaq,zar,zas,zat,zau,zav,zaw,zax,zay,zaz,zba,aUn,zbb,zbc,zbd,zbe,zbf,zbg,zbh,zbi,zbj,zbk,zbl,zbm,zbn,flat,simple,zbo,zbp,zbq,zbr,zbs,zbt,zbu,zbv,zbw,zbx,zby,zbz,zca,zcb,zcc,zcd,zce,zcf,zcg,zch,zci,zcj,zck,zcl,zcm,zcn,zco,zcp,zcq,zcr,Nat.reduceEqDiff,Nat.reduceLT,Nat.reduceAdd,Nat.reduceSub,reduceIte,Kt_P,zcs,zct,zcu,zcv,zcw,zcx,zcy,zcz,zda,zdb,zdc,zdd,zde,zdf,zdg,zdh,zdi,zdj,zdk,reduceCtorEq,zdl,zdm,zdn,goInt,zdo,zdp,zdq,zdr,zds,zdt,zdu,zdv,zdw,zdx,zdy,zdz,zea,zeb,zec,zed,zdk,zee,zef,zeg,zeh,zei,zej,zek,zel,zem,zen,zeo,zep,zeq,zer,zes,zet,zeu,zev,zew,zex,zey,ya,yb,yc,yd,ye,yf,ts_int,ts_int64,ts_bool,ts_ints,ts_post,ts_posts,yg,yh,yi,yj,yk,yl,ym,ts_intsl,ts_int64s,ts_bools,ts_side,ts_sideb,ts_pints,ts_pbool,aPure,aLen,e7,e8,e12]
      rw [CalF_cal (Kt_prim (by decide) _ _)]
      refine Cal_ch Kt_ch hch3 ?_
      have hH3 := hF3.next
      refine bPosts_ok J6.next H3 bk _ _ iv3 pv3 vb _ ub hBk3 (by omega) (hLb.rd.dk hF3.dat) (by rw [List.length_append]; omega) (by rw [List.length_append, List.length_map]; simp; omega) _ fun H4 iv4 pv4 hF4 hBk4 hch4 => ?_
      simp only [zfd,zaa,zab,zac,zad,zae,zaf,zag,zah,zai,zaj,zak,zal,zam,zan,zao,zap,zaq,zar,zas,zat,zau,zav,zaw,zax,zay,zaz,zba,aUn,zbb,zbc,zbd,zbe,zbf,zbg,zbh,zbi,zbj,zbk,zbl,zbm,zbn,flat,simple,zbo,zbp,zbq,zbr,zbs,zbt,zbu,zbv,zbw,zbx,zby,zbz,zca,zcb,zcc,zcd,zce,zcf,zcg,zch,zci,zcj,zck,zcl,zcm,zcn,zco,zcp,zcq,zcr,Nat.reduceEqDiff,Nat.reduceLT,Nat.reduceAdd,Nat.reduceSub,reduceIte,Kt_P,zcs,zct,zcu,zcv,zcw,zcx,zcy,zcz,zda,zdb,zdc,zdd,zde,zdf,zdg,zdh,zdi,zdj,zdk,reduceCtorEq,zdl,zdm,zdn,goInt,zdo,zdp,zdq,zdr,zds,zdt,zdu,zdv,zdw,zdx,zdy,zdz,zea,zeb,zec,zed,zdk,zee,zef,zeg,zeh,zei,zej,zek,zel,zem,zen,zeo,zep,zeq,zer,zes,zet,zeu,zev,zew,zex,zey,ya,yb,yc,yd,ye,yf,ts_int,ts_int64,ts_bool,ts_ints,ts_post,ts_posts,yg,yh,yi,yj,yk,yl,ym,ts_intsl,ts_int64s,ts_bools,ts_side,ts_sideb,ts_pints,ts_pbool,aPure,aLen,e7,e8,e12]
      have hF64 : Fr (fun x => J6.next ≤ x) J6 H4 := Fr.trans (Fr.trans hFH hF3 fun _ _ h => h) hF4 fun _ _ h => h
      obtain ⟨its2, hits2⟩ : ∃ its2, its2 = its ++ [(⟨va, ua⟩ : It), ⟨vb, ub⟩] := ⟨_, rfl⟩
      have hbook : BookAt J6.next H4 bk (its2.flatMap (·.us)) (its2.map (·.v)) iv4 pv4 := by
        rw [hits2]
        simpa using hBk4
      have hcol6 : Col A.next J6 its2 := by
        rw [hits2]
        exact hG.col.perm List.perm_append_comm
      have hcol : Col A.next H4 its2 := hcol6.fr hF64 fun b hb hm => by omega
      have hn6' := hF64.next
      have hold : Old A H4 := fun c hc => by
        have q1 := hE1.next
        have q2 := hE2.next
        have q3 := hG.fr.next
        rw [hF64.same c (by omega) (by omega), hG.fr.same c (by omega) (by omega), hE2.same c (by omega) fun h => h, hE1.same c hc fun h => h]
      have hle : A.next ≤ H4.next := hch4.next
      have hlen2 : its2.length = 12 := by rw [hits2]; simp; omega
      have hub2 : (its2.flatMap (·.us)).length ≤ 100000000 := by
        rw [hits2, List.flatMap_append, List.length_append]
        simp only [List.flatMap_cons,List.flatMap_nil,List.length_append,List.append_nil]
        omega
      have hI := Col.apIn (A0 := A) (el := 3) (sz := 1) hbook.ia (fun u hu => by
          obtain ⟨t, ht, hut⟩ := List.mem_flatMap.1 hu
          exact (hcol.1 t ht).2 u hut) (fun u hu b hb hc => by
          obtain ⟨t, ht, hut⟩ := List.mem_flatMap.1 hu
          have := (hcol6.lt ht).2 u hut b hb
          have := hbook.ib b hc
          omega) hcol.2.2 hch4 hold hle hub2
      have hP := Col.apIn (A0 := A) (el := 61) (sz := 2) hbook.pa (fun u hu => by
          obtain ⟨t, ht, rfl⟩ := List.mem_map.1 hu
          exact (hcol.1 t ht).1) (fun u hu b hb hc => by
          obtain ⟨t, ht, rfl⟩ := List.mem_map.1 hu
          have := (hcol6.lt ht).1 b hb
          have := hbook.pb b hc
          omega) hcol.2.1 hch4 hold hle (by rw [List.length_map]; omega)
      rw [CalF_cal (Kt_prim (by decide) _ _)]
      refine bApart_ok J6.next A H4 bk _ _ iv4 pv4 _ _ _ _ hbook hI hP _ fun H5 => ?_
      simp only [zfd,zaa,zab,zac,zad,zae,zaf,zag,zah,zai,zaj,zak,zal,zam,zan,zao,zap,zaq,zar,zas,zat,zau,zav,zaw,zax,zay,zaz,zba,aUn,zbb,zbc,zbd,zbe,zbf,zbg,zbh,zbi,zbj,zbk,zbl,zbm,zbn,flat,simple,zbo,zbp,zbq,zbr,zbs,zbt,zbu,zbv,zbw,zbx,zby,zbz,zca,zcb,zcc,zcd,zce,zcf,zcg,zch,zci,zcj,zck,zcl,zcm,zcn,zco,zcp,zcq,zcr,Nat.reduceEqDiff,Nat.reduceLT,Nat.reduceAdd,Nat.reduceSub,reduceIte,Kt_P,zcs,zct,zcu,zcv,zcw,zcx,zcy,zcz,zda,zdb,zdc,zdd,zde,zdf,zdg,zdh,zdi,zdj,zdk,reduceCtorEq,zdl,zdm,zdn,goInt,zdo,zdp,zdq,zdr,zds,zdt,zdu,zdv,zdw,zdx,zdy,zdz,zea,zeb,zec,zed,zdk,zee,zef,zeg,zeh,zei,zej,zek,zel,zem,zen,zeo,zep,zeq,zer,zes,zet,zeu,zev,zew,zex,zey,ya,yb,yc,yd,ye,yf,ts_int,ts_int64,ts_bool,ts_ints,ts_post,ts_posts,yg,yh,yi,yj,yk,yl,ym,ts_intsl,ts_int64s,ts_bools,ts_side,ts_sideb,ts_pints,ts_pbool,aPure,aLen]
      refine CalF_prim (works_prim _) ?_
      simp only [zfd,zaa,zab,zac,zad,zae,zaf,zag,zah,zai,zaj,zak,zal,zam,zan,zao,zap,zaq,zar,zas,zat,zau,zav,zaw,zax,zay,zaz,zba,aUn,zbb,zbc,zbd,zbe,zbf,zbg,zbh,zbi,zbj,zbk,zbl,zbm,zbn,flat,simple,zbo,zbp,zbq,zbr,zbs,zbt,zbu,zbv,zbw,zbx,zby,zbz,zca,zcb,zcc,zcd,zce,zcf,zcg,zch,zci,zcj,zck,zcl,zcm,zcn,zco,zcp,zcq,zcr,Nat.reduceEqDiff,Nat.reduceLT,Nat.reduceAdd,Nat.reduceSub,reduceIte,Kt_P,zcs,zct,zcu,zcv,zcw,zcx,zcy,zcz,zda,zdb,zdc,zdd,zde,zdf,zdg,zdh,zdi,zdj,zdk,reduceCtorEq,zdl,zdm,zdn,goInt,zdo,zdp,zdq,zdr,zds,zdt,zdu,zdv,zdw,zdx,zdy,zdz,zea,zeb,zec,zed,zdk,zee,zef,zeg,zeh,zei,zej,zek,zel,zem,zen,zeo,zep,zeq,zer,zes,zet,zeu,zev,zew,zex,zey,ya,yb,yc,yd,ye,yf,ts_int,ts_int64,ts_bool,ts_ints,ts_post,ts_posts,yg,yh,yi,yj,yk,yl,ym,ts_intsl,ts_int64s,ts_bools,ts_side,ts_sideb,ts_pints,ts_pbool,aPure,aLen]
      exact hq _
end Go.Sh
