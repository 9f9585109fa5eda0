/- What single functions do: the document's numbers as bytes. -/
import Derived.Test.YteoefjahcbfpeaaDoorSpW
import Derived.Test.YteoefjahcbfpeaaDoorSpFt
namespace Go.Sh
open Go Go.Proofs
set_option linter.unusedSimpArgs false
set_option linter.unusedVariables false
set_option maxRecDepth 4000
set_option maxHeartbeats 2000000

section
variable {K : Ctx}
theorem stable_op {ops : Array Oper} {T : List TI} {AN H : AHeap} {i p : Nat} {t : TI} {o : Oper} (hs : ∀ v, K.same v v = true) (h0 : T[i]? = some t) (ho : ops[i]? = some o)
    (hH : heapAt T AN i p = some H) (hl : evPR K.P o.op t.e H = some t.v) : stable K ops T AN (i, p) = true := by
  unfold stable
  simp only [h0,ho,hH]
  split
  · simp only [hl,hs]
  · rfl
theorem OpW_strBytes_of {e : Env} {A : AHeap} {Q : Value → AHeap → Prop} {s d el : TypeId} (hs : K.P.underlying s = some .string) (hd : K.P.underlying d = some (.slice el)) (he : K.P.underlying el = some (.int .u8)) (h1 : tsize K.P el = some 1) {x : Operand} {str : ByteArray} (hok : okOpd x = true) (hx : opv e x = .string str)
    (h : ∀ b A', b = A.next → A'.next = b + 1 → Ext A A' → Acc A' el 1 (.slice (some ⟨b, 0, none⟩) str.size str.size) str.size (u8s (bl str)) → Q (.slice (some ⟨b, 0, none⟩) str.size str.size) A') : OpW K (.convert s d x) e A Q := by
  refine OpW_by rfl (by simp [Op.operands, hok]) (evB_eff (p := (.slice (some ⟨A.next, 0, none⟩) str.size str.size, A.alloc (.row ⟨strCells str, el, false, 3, [], true⟩))) ?_ ?_ ?_) (h _ _ rfl rfl (Ext.alloc _ _) ⟨by rw [u8s_len, ← bl_len, Nat.mul_one], .inr ⟨_, rfl, by simp, [], true, by rw [AHeap.get_alloc, if_pos rfl, strCells_u8s]⟩⟩)
  · simp only [aPure,aConvert,hs,hd]
  · simp only [aRead,aUnsafe,hs,hd,hx]
  · simp only [aEff,aStrBytes,hs,hd,hx]
    rw [if_pos ⟨by rw [he]; rfl, h1⟩]
end

theorem fn_rUint : Kt.funcs 26 = some Tryd.f26 := by kernel_rfl
theorem fn_rInt : Kt.funcs 28 = some Tryd.f28 := by kernel_rfl
theorem fn_rSigned : Kt.funcs 49 = some Tryd.f49 := by kernel_rfl

theorem aBin_quo {P : Program} {t : TypeId} {c : Bool} {k : IntKind} {a b : Int} : aBin P .quo t c (.int k a) (.int k b) = if b = 0 then none else some (.int k (k.wrap (a.tdiv b))) := by simp [aBin, intBin]
theorem aBin_cat {P : Program} {t : TypeId} {c : Bool} {a b : ByteArray} (h : a.size + b.size ≤ 9223372036854775807) : aBin P .add t c (.string a) (.string b) = some (.string (a ++ b)) := by
  have hm : IntKind.i64.max = 9223372036854775807 := by decide
  show strBin .add a b = _
  unfold strBin
  simp only
  rw [if_neg (by rw [hm]; omega)]
theorem bl_append (a b : ByteArray) : bl (a ++ b) = bl a ++ bl b := by
  unfold bl
  rw [ByteArray.data_append, Array.toList_append]
theorem evPR_str {P : Program} {e : Env} {A : AHeap} {s d el : TypeId} (hs : P.underlying s = some (.slice el)) (hd : P.underlying d = some .string) (he : P.underlying el = some (.int .u8)) {x : Operand} {b n c : Nat} {l : List UInt8}
    (hx : opv e x = .slice (some ⟨b, 0, none⟩) n c) (hc : acells A b 0 n = some (u8s l)) : evPR P (.convert s d x) e A = some (.string ⟨l.toArray⟩) := by
  unfold evPR
  simp only [aPure,aConvert,aRead,hs,hd,he,hx,aBytesToString,hc,aBytes_u8s,Option.map_some]
  rfl
theorem evPR_conv {P : Program} {e : Env} {A : AHeap} {s d : TypeId} {ds : TypeDesc} {k k' : IntKind} {n n' : Int} (hs : P.underlying s = some ds) (hd : P.underlying d = some (.int k)) {x : Operand} (hx : opv e x = .int k' n) (hw : k.wrap n = n') :
    evPR P (.convert s d x) e A = some (.int k n') := by
  unfold evPR
  simp only [aPure,aConvert,hs,hd,hx,hw]
theorem refUint_ok (n : Nat) (hn : n < 18446744073709551616) (A : AHeap) (Q : Value → AHeap → Prop) (hq : ∀ s A', Ext A A' → bl s = uintL n → Q (.string s) A') : Cal Kt 26 #[.int .u64 n] A Q := by
  induction n using Nat.strongRecOn generalizing A Q with
  | _ n ih =>
  refine Cal_of (nt := 19) (rs := [.tmp 2]) fn_rUint rfl rfl rfl (Nat.le_of_ble_eq_true rfl) ?_
  simp only [zaa,zab,zac,zad,zae,zaf,zag,zah,zai,zaj,zak,zal,zam,zan,zao,zap,zaq,zar,zas,zat,zau,zav,zaw,zax,zay,zaz,zba,aUn,zbb,zbc,zbd,zbe,zbf,zbg,zbh,zbi,zbj,zbk,zbl,zbm,zbn,flat,simple,zbo,zbp,zbq,zbr,zbs,zbt,zbu,zbv,zbw,zbx,zby,zbz,zca,zcb,zcc,zcd,zce,zcf,zcg,zch,zci,zcj,zck,zcl,zcm,zcn,zco,zcp,zcq,zcr,Nat.reduceEqDiff,Nat.reduceLT,Nat.reduceAdd,Nat.reduceSub,reduceIte,Kt_P,zcs,zct,zcu,zcv,zcw,zcx,zcy,zcz,zda,zdb,zdc,zdd,zde,zdf,zdg,zdh,zdi,zdj,zdk,reduceCtorEq,zdl,zdm,zdn,goInt,zdo,zdp,zdq,zdr,zds,zdt,zdu,zdv,zdw,zdx,zdy,zdz,zea,zeb,zec,zed,zdk,zee,zef,zeg,zeh,zei,zej,zek,zel,zem,zen,zeo,zep,zeq,zer,zes,zet,zeu,zev,zew,zex,zey,ya,yb,yc,yd,ye,yf,ts_int,ts_int64,ts_bool,ts_ints,ts_post,ts_posts,yg,yh,yi,yj,yk,yl,ym,ts_intsl,ts_int64s,ts_bools,ts_side,ts_sideb,ts_pints,ts_pbool,aPure,aLen,ywa,ywb,ywc,ywd,ywe,ywf,ywg,ywh,ywi,ywj,ywk,ywl,ywm,ywn,ywo,ts_string,ts_u8,ts_u64,ts_error,ts_bytes,ts_arr,ts_reader,ts_pbuilder,ts_builder,cv_64_8,cv_8_64,cv_64_i64,cv_i64_64,cv_64_int,cv_int_64,errV_0]
  refine Way_of (fun hlt => ?_) (fun hge => ?_)
  · have hlt' : n < 128 := by omega
    have hcv : IntKind.u8.wrap (n : Int) = ((UInt8.ofNat n).toNat : Int) := by
      rw [wrap_u8, UInt8.toNat_ofNat']
      omega
    simp only [zaa,zab,zac,zad,zae,zaf,zag,zah,zai,zaj,zak,zal,zam,zan,zao,zap,zaq,zar,zas,zat,zau,zav,zaw,zax,zay,zaz,zba,aUn,zbb,zbc,zbd,zbe,zbf,zbg,zbh,zbi,zbj,zbk,zbl,zbm,zbn,flat,simple,zbo,zbp,zbq,zbr,zbs,zbt,zbu,zbv,zbw,zbx,zby,zbz,zca,zcb,zcc,zcd,zce,zcf,zcg,zch,zci,zcj,zck,zcl,zcm,zcn,zco,zcp,zcq,zcr,Nat.reduceEqDiff,Nat.reduceLT,Nat.reduceAdd,Nat.reduceSub,reduceIte,Kt_P,zcs,zct,zcu,zcv,zcw,zcx,zcy,zcz,zda,zdb,zdc,zdd,zde,zdf,zdg,zdh,zdi,zdj,zdk,reduceCtorEq,zdl,zdm,zdn,goInt,zdo,zdp,zdq,zdr,zds,zdt,zdu,zdv,zdw,zdx,zdy,zdz,zea,zeb,zec,zed,zdk,zee,zef,zeg,zeh,zei,zej,zek,zel,zem,zen,zeo,zep,zeq,zer,zes,zet,zeu,zev,zew,zex,zey,ya,yb,yc,yd,ye,yf,ts_int,ts_int64,ts_bool,ts_ints,ts_post,ts_posts,yg,yh,yi,yj,yk,yl,ym,ts_intsl,ts_int64s,ts_bools,ts_side,ts_sideb,ts_pints,ts_pbool,aPure,aLen,ywa,ywb,ywc,ywd,ywe,ywf,ywg,ywh,ywi,ywj,ywk,ywl,ywm,ywn,ywo,ts_string,ts_u8,ts_u64,ts_error,ts_bytes,ts_arr,ts_reader,ts_pbuilder,ts_builder,cv_64_8,cv_8_64,cv_64_i64,cv_i64_64,cv_64_int,cv_int_64,errV_0,hcv]
    refine OpW_buildSlice_of (cs := [.int .u8 (UInt8.ofNat n).toNat]) Tryd.underlying51 ts_u8 tz_u8 (by decide) rfl rfl rfl fun b1 A1 hb1 hn1 hE1 hB1 => ?_
    simp only [zaa,zab,zac,zad,zae,zaf,zag,zah,zai,zaj,zak,zal,zam,zan,zao,zap,zaq,zar,zas,zat,zau,zav,zaw,zax,zay,zaz,zba,aUn,zbb,zbc,zbd,zbe,zbf,zbg,zbh,zbi,zbj,zbk,zbl,zbm,zbn,flat,simple,zbo,zbp,zbq,zbr,zbs,zbt,zbu,zbv,zbw,zbx,zby,zbz,zca,zcb,zcc,zcd,zce,zcf,zcg,zch,zci,zcj,zck,zcl,zcm,zcn,zco,zcp,zcq,zcr,Nat.reduceEqDiff,Nat.reduceLT,Nat.reduceAdd,Nat.reduceSub,reduceIte,Kt_P,zcs,zct,zcu,zcv,zcw,zcx,zcy,zcz,zda,zdb,zdc,zdd,zde,zdf,zdg,zdh,zdi,zdj,zdk,reduceCtorEq,zdl,zdm,zdn,goInt,zdo,zdp,zdq,zdr,zds,zdt,zdu,zdv,zdw,zdx,zdy,zdz,zea,zeb,zec,zed,zdk,zee,zef,zeg,zeh,zei,zej,zek,zel,zem,zen,zeo,zep,zeq,zer,zes,zet,zeu,zev,zew,zex,zey,ya,yb,yc,yd,ye,yf,ts_int,ts_int64,ts_bool,ts_ints,ts_post,ts_posts,yg,yh,yi,yj,yk,yl,ym,ts_intsl,ts_int64s,ts_bools,ts_side,ts_sideb,ts_pints,ts_pbool,aPure,aLen,ywa,ywb,ywc,ywd,ywe,ywf,ywg,ywh,ywi,ywj,ywk,ywl,ywm,ywn,ywo,ts_string,ts_u8,ts_u64,ts_error,ts_bytes,ts_arr,ts_reader,ts_pbuilder,ts_builder,cv_64_8,cv_8_64,cv_64_i64,cv_i64_64,cv_64_int,cv_int_64,errV_0]
    refine OpW_bytesStr (b := b1) (n := 1) (c := 1) (l := [UInt8.ofNat n]) Tryd.underlying51 Tryd.underlying9 Tryd.underlying5 rfl (by simp only [zaa,zab,zac,zad,zae,zaf,zag,zah,zai,zaj,zak,zal,zam,zan,zao,zap,zaq,zar,zas,zat,zau,zav,zaw,zax,zay,zaz,zba,aUn,zbb,zbc,zbd,zbe,zbf,zbg,zbh,zbi,zbj,zbk,zbl,zbm,zbn,flat,simple,zbo,zbp,zbq,zbr,zbs,zbt,zbu,zbv,zbw,zbx,zby,zbz,zca,zcb,zcc,zcd,zce,zcf,zcg,zch,zci,zcj,zck,zcl,zcm,zcn,zco,zcp,zcq,zcr,Nat.reduceEqDiff,Nat.reduceLT,Nat.reduceAdd,Nat.reduceSub,reduceIte,Kt_P,zcs,zct,zcu,zcv,zcw,zcx,zcy,zcz,zda,zdb,zdc,zdd,zde,zdf,zdg,zdh,zdi,zdj,zdk,reduceCtorEq,zdl,zdm,zdn,goInt,zdo,zdp,zdq,zdr,zds,zdt,zdu,zdv,zdw,zdx,zdy,zdz,zea,zeb,zec,zed,zdk,zee,zef,zeg,zeh,zei,zej,zek,zel,zem,zen,zeo,zep,zeq,zer,zes,zet,zeu,zev,zew,zex,zey,ya,yb,yc,yd,ye,yf,ts_int,ts_int64,ts_bool,ts_ints,ts_post,ts_posts,yg,yh,yi,yj,yk,yl,ym,ts_intsl,ts_int64s,ts_bools,ts_side,ts_sideb,ts_pints,ts_pbool,aPure,aLen,ywa,ywb,ywc,ywd,ywe,ywf,ywg,ywh,ywi,ywj,ywk,ywl,ywm,ywn,ywo,ts_string,ts_u8,ts_u64,ts_error,ts_bytes,ts_arr,ts_reader,ts_pbuilder,ts_builder,cv_64_8,cv_8_64,cv_64_i64,cv_i64_64,cv_64_int,cv_int_64,errV_0]) (by rw [acells_of hB1.arow (by simp)]; rfl) ?_
    simp only [zaa,zab,zac,zad,zae,zaf,zag,zah,zai,zaj,zak,zal,zam,zan,zao,zap,zaq,zar,zas,zat,zau,zav,zaw,zax,zay,zaz,zba,aUn,zbb,zbc,zbd,zbe,zbf,zbg,zbh,zbi,zbj,zbk,zbl,zbm,zbn,flat,simple,zbo,zbp,zbq,zbr,zbs,zbt,zbu,zbv,zbw,zbx,zby,zbz,zca,zcb,zcc,zcd,zce,zcf,zcg,zch,zci,zcj,zck,zcl,zcm,zcn,zco,zcp,zcq,zcr,Nat.reduceEqDiff,Nat.reduceLT,Nat.reduceAdd,Nat.reduceSub,reduceIte,Kt_P,zcs,zct,zcu,zcv,zcw,zcx,zcy,zcz,zda,zdb,zdc,zdd,zde,zdf,zdg,zdh,zdi,zdj,zdk,reduceCtorEq,zdl,zdm,zdn,goInt,zdo,zdp,zdq,zdr,zds,zdt,zdu,zdv,zdw,zdx,zdy,zdz,zea,zeb,zec,zed,zdk,zee,zef,zeg,zeh,zei,zej,zek,zel,zem,zen,zeo,zep,zeq,zer,zes,zet,zeu,zev,zew,zex,zey,ya,yb,yc,yd,ye,yf,ts_int,ts_int64,ts_bool,ts_ints,ts_post,ts_posts,yg,yh,yi,yj,yk,yl,ym,ts_intsl,ts_int64s,ts_bools,ts_side,ts_sideb,ts_pints,ts_pbool,aPure,aLen,ywa,ywb,ywc,ywd,ywe,ywf,ywg,ywh,ywi,ywj,ywk,ywl,ywm,ywn,ywo,ts_string,ts_u8,ts_u64,ts_error,ts_bytes,ts_arr,ts_reader,ts_pbuilder,ts_builder,cv_64_8,cv_8_64,cv_64_i64,cv_i64_64,cv_64_int,cv_int_64,errV_0]
    refine hq _ _ hE1 ?_
    rw [bl_mk, uintL, dif_pos hlt']
  · have hge' : ¬ n < 128 := by omega
    simp only [zaa,zab,zac,zad,zae,zaf,zag,zah,zai,zaj,zak,zal,zam,zan,zao,zap,zaq,zar,zas,zat,zau,zav,zaw,zax,zay,zaz,zba,aUn,zbb,zbc,zbd,zbe,zbf,zbg,zbh,zbi,zbj,zbk,zbl,zbm,zbn,flat,simple,zbo,zbp,zbq,zbr,zbs,zbt,zbu,zbv,zbw,zbx,zby,zbz,zca,zcb,zcc,zcd,zce,zcf,zcg,zch,zci,zcj,zck,zcl,zcm,zcn,zco,zcp,zcq,zcr,Nat.reduceEqDiff,Nat.reduceLT,Nat.reduceAdd,Nat.reduceSub,reduceIte,Kt_P,zcs,zct,zcu,zcv,zcw,zcx,zcy,zcz,zda,zdb,zdc,zdd,zde,zdf,zdg,zdh,zdi,zdj,zdk,reduceCtorEq,zdl,zdm,zdn,goInt,zdo,zdp,zdq,zdr,zds,zdt,zdu,zdv,zdw,zdx,zdy,zdz,zea,zeb,zec,zed,zdk,zee,zef,zeg,zeh,zei,zej,zek,zel,zem,zen,zeo,zep,zeq,zer,zes,zet,zeu,zev,zew,zex,zey,ya,yb,yc,yd,ye,yf,ts_int,ts_int64,ts_bool,ts_ints,ts_post,ts_posts,yg,yh,yi,yj,yk,yl,ym,ts_intsl,ts_int64s,ts_bools,ts_side,ts_sideb,ts_pints,ts_pbool,aPure,aLen,ywa,ywb,ywc,ywd,ywe,ywf,ywg,ywh,ywi,ywj,ywk,ywl,ywm,ywn,ywo,ts_string,ts_u8,ts_u64,ts_error,ts_bytes,ts_arr,ts_reader,ts_pbuilder,ts_builder,cv_64_8,cv_8_64,cv_64_i64,cv_i64_64,cv_64_int,cv_int_64,errV_0]
    have hrem : (n : Int).tmod 128 = ((n % 128 : Nat) : Int) := rfl
    have hquo : IntKind.u64.wrap ((n : Int).tdiv 128) = ((n / 128 : Nat) : Int) := by
      rw [show (n : Int).tdiv 128 = ((n / 128 : Nat) : Int) from rfl, wrap_u64 (by omega)]
    have hcv : IntKind.u8.wrap ((n % 128 : Nat) : Int) = ((n % 128 : Nat) : Int) := by rw [wrap_u8]; omega
    have had : IntKind.u8.wrap (((n % 128 : Nat) : Int) + 128) = ((UInt8.ofNat (n % 128 + 128)).toNat : Int) := by
      rw [wrap_u8, UInt8.toNat_ofNat']
      omega
    have h128 : ((128 : Int) = 0) = False := eq_false (by decide)
    refine Cod_draw_late (l := [(2, 8), (5, 8)]) (l2 := [(4, 8)]) (by kernel_rfl) (by kernel_rfl) (by kernel_rfl) (by kernel_rfl) ?_
    simp only [zaa,zab,zac,zad,zae,zaf,zag,zah,zai,zaj,zak,zal,zam,zan,zao,zap,zaq,zar,zas,zat,zau,zav,zaw,zax,zay,zaz,zba,aUn,zbb,zbc,zbd,zbe,zbf,zbg,zbh,zbi,zbj,zbk,zbl,zbm,zbn,flat,simple,zbo,zbp,zbq,zbr,zbs,zbt,zbu,zbv,zbw,zbx,zby,zbz,zca,zcb,zcc,zcd,zce,zcf,zcg,zch,zci,zcj,zck,zcl,zcm,zcn,zco,zcp,zcq,zcr,Nat.reduceEqDiff,Nat.reduceLT,Nat.reduceAdd,Nat.reduceSub,reduceIte,Kt_P,zcs,zct,zcu,zcv,zcw,zcx,zcy,zcz,zda,zdb,zdc,zdd,zde,zdf,zdg,zdh,zdi,zdj,zdk,reduceCtorEq,zdl,zdm,zdn,goInt,zdo,zdp,zdq,zdr,zds,zdt,zdu,zdv,zdw,zdx,zdy,zdz,zea,zeb,zec,zed,zdk,zee,zef,zeg,zeh,zei,zej,zek,zel,zem,zen,zeo,zep,zeq,zer,zes,zet,zeu,zev,zew,zex,zey,ya,yb,yc,yd,ye,yf,ts_int,ts_int64,ts_bool,ts_ints,ts_post,ts_posts,yg,yh,yi,yj,yk,yl,ym,ts_intsl,ts_int64s,ts_bools,ts_side,ts_sideb,ts_pints,ts_pbool,aPure,aLen,ywa,ywb,ywc,ywd,ywe,ywf,ywg,ywh,ywi,ywj,ywk,ywl,ywm,ywn,ywo,ts_string,ts_u8,ts_u64,ts_error,ts_bytes,ts_arr,ts_reader,ts_pbuilder,ts_builder,cv_64_8,cv_8_64,cv_64_i64,cv_i64_64,cv_64_int,cv_int_64,errV_0,Trc_cons,Trc_nil,aBin_quo,hrem,hquo,hcv,had,h128]
    refine OpW_buildSlice_of (cs := [.int .u8 (UInt8.ofNat (n % 128 + 128)).toNat]) Tryd.underlying51 ts_u8 tz_u8 (by decide) rfl rfl rfl fun b1 A1 hb1 hn1 hE1 hB1 => ?_
    simp only [zaa,zab,zac,zad,zae,zaf,zag,zah,zai,zaj,zak,zal,zam,zan,zao,zap,zaq,zar,zas,zat,zau,zav,zaw,zax,zay,zaz,zba,aUn,zbb,zbc,zbd,zbe,zbf,zbg,zbh,zbi,zbj,zbk,zbl,zbm,zbn,flat,simple,zbo,zbp,zbq,zbr,zbs,zbt,zbu,zbv,zbw,zbx,zby,zbz,zca,zcb,zcc,zcd,zce,zcf,zcg,zch,zci,zcj,zck,zcl,zcm,zcn,zco,zcp,zcq,zcr,Nat.reduceEqDiff,Nat.reduceLT,Nat.reduceAdd,Nat.reduceSub,reduceIte,Kt_P,zcs,zct,zcu,zcv,zcw,zcx,zcy,zcz,zda,zdb,zdc,zdd,zde,zdf,zdg,zdh,zdi,zdj,zdk,reduceCtorEq,zdl,zdm,zdn,goInt,zdo,zdp,zdq,zdr,zds,zdt,zdu,zdv,zdw,zdx,zdy,zdz,zea,zeb,zec,zed,zdk,zee,zef,zeg,zeh,zei,zej,zek,zel,zem,zen,zeo,zep,zeq,zer,zes,zet,zeu,zev,zew,zex,zey,ya,yb,yc,yd,ye,yf,ts_int,ts_int64,ts_bool,ts_ints,ts_post,ts_posts,yg,yh,yi,yj,yk,yl,ym,ts_intsl,ts_int64s,ts_bools,ts_side,ts_sideb,ts_pints,ts_pbool,aPure,aLen,ywa,ywb,ywc,ywd,ywe,ywf,ywg,ywh,ywi,ywj,ywk,ywl,ywm,ywn,ywo,ts_string,ts_u8,ts_u64,ts_error,ts_bytes,ts_arr,ts_reader,ts_pbuilder,ts_builder,cv_64_8,cv_8_64,cv_64_i64,cv_i64_64,cv_64_int,cv_int_64,errV_0,Trc_cons,Trc_nil]
    refine OpW_bytesStr (b := b1) (n := 1) (c := 1) (l := [UInt8.ofNat (n % 128 + 128)]) Tryd.underlying51 Tryd.underlying9 Tryd.underlying5 rfl (by simp only [zaa,zab,zac,zad,zae,zaf,zag,zah,zai,zaj,zak,zal,zam,zan,zao,zap,zaq,zar,zas,zat,zau,zav,zaw,zax,zay,zaz,zba,aUn,zbb,zbc,zbd,zbe,zbf,zbg,zbh,zbi,zbj,zbk,zbl,zbm,zbn,flat,simple,zbo,zbp,zbq,zbr,zbs,zbt,zbu,zbv,zbw,zbx,zby,zbz,zca,zcb,zcc,zcd,zce,zcf,zcg,zch,zci,zcj,zck,zcl,zcm,zcn,zco,zcp,zcq,zcr,Nat.reduceEqDiff,Nat.reduceLT,Nat.reduceAdd,Nat.reduceSub,reduceIte,Kt_P,zcs,zct,zcu,zcv,zcw,zcx,zcy,zcz,zda,zdb,zdc,zdd,zde,zdf,zdg,zdh,zdi,zdj,zdk,reduceCtorEq,zdl,zdm,zdn,goInt,zdo,zdp,zdq,zdr,zds,zdt,zdu,zdv,zdw,zdx,zdy,zdz,zea,zeb,zec,zed,zdk,zee,zef,zeg,zeh,zei,zej,zek,zel,zem,zen,zeo,zep,zeq,zer,zes,zet,zeu,zev,zew,zex,zey,ya,yb,yc,yd,ye,yf,ts_int,ts_int64,ts_bool,ts_ints,ts_post,ts_posts,yg,yh,yi,yj,yk,yl,ym,ts_intsl,ts_int64s,ts_bools,ts_side,ts_sideb,ts_pints,ts_pbool,aPure,aLen,ywa,ywb,ywc,ywd,ywe,ywf,ywg,ywh,ywi,ywj,ywk,ywl,ywm,ywn,ywo,ts_string,ts_u8,ts_u64,ts_error,ts_bytes,ts_arr,ts_reader,ts_pbuilder,ts_builder,cv_64_8,cv_8_64,cv_64_i64,cv_i64_64,cv_64_int,cv_int_64,errV_0]) (by rw [acells_of hB1.arow (by simp)]; rfl) ?_
    simp only [zaa,zab,zac,zad,zae,zaf,zag,zah,zai,zaj,zak,zal,zam,zan,zao,zap,zaq,zar,zas,zat,zau,zav,zaw,zax,zay,zaz,zba,aUn,zbb,zbc,zbd,zbe,zbf,zbg,zbh,zbi,zbj,zbk,zbl,zbm,zbn,flat,simple,zbo,zbp,zbq,zbr,zbs,zbt,zbu,zbv,zbw,zbx,zby,zbz,zca,zcb,zcc,zcd,zce,zcf,zcg,zch,zci,zcj,zck,zcl,zcm,zcn,zco,zcp,zcq,zcr,Nat.reduceEqDiff,Nat.reduceLT,Nat.reduceAdd,Nat.reduceSub,reduceIte,Kt_P,zcs,zct,zcu,zcv,zcw,zcx,zcy,zcz,zda,zdb,zdc,zdd,zde,zdf,zdg,zdh,zdi,zdj,zdk,reduceCtorEq,zdl,zdm,zdn,goInt,zdo,zdp,zdq,zdr,zds,zdt,zdu,zdv,zdw,zdx,zdy,zdz,zea,zeb,zec,zed,zdk,zee,zef,zeg,zeh,zei,zej,zek,zel,zem,zen,zeo,zep,zeq,zer,zes,zet,zeu,zev,zew,zex,zey,ya,yb,yc,yd,ye,yf,ts_int,ts_int64,ts_bool,ts_ints,ts_post,ts_posts,yg,yh,yi,yj,yk,yl,ym,ts_intsl,ts_int64s,ts_bools,ts_side,ts_sideb,ts_pints,ts_pbool,aPure,aLen,ywa,ywb,ywc,ywd,ywe,ywf,ywg,ywh,ywi,ywj,ywk,ywl,ywm,ywn,ywo,ts_string,ts_u8,ts_u64,ts_error,ts_bytes,ts_arr,ts_reader,ts_pbuilder,ts_builder,cv_64_8,cv_8_64,cv_64_i64,cv_i64_64,cv_64_int,cv_int_64,errV_0,Trc_cons,Trc_nil,aBin_quo,hrem,hquo,hcv,had,h128]
    rw [CalF_cal (Kt_prim (by decide) _ _)]
    refine ih (n / 128) (by omega) (by omega) A1 _ fun s A2 hE2 hs => ?_
    have hsl : s.size ≤ 100 := by rw [bl_len, hs]; have := uintL_le 10 (n / 128) (by omega) (by omega); omega
    have hadd : aBin Tryd.prog .add 9 false (.string ⟨[UInt8.ofNat (n % 128 + 128)].toArray⟩) (.string s) = some (.string (⟨[UInt8.ofNat (n % 128 + 128)].toArray⟩ ++ s)) := aBin_cat (by rw [bl_len, bl_mk]; simp; omega)
    simp only [zaa,zab,zac,zad,zae,zaf,zag,zah,zai,zaj,zak,zal,zam,zan,zao,zap,zaq,zar,zas,zat,zau,zav,zaw,zax,zay,zaz,zba,aUn,zbb,zbc,zbd,zbe,zbf,zbg,zbh,zbi,zbj,zbk,zbl,zbm,zbn,flat,simple,zbo,zbp,zbq,zbr,zbs,zbt,zbu,zbv,zbw,zbx,zby,zbz,zca,zcb,zcc,zcd,zce,zcf,zcg,zch,zci,zcj,zck,zcl,zcm,zcn,zco,zcp,zcq,zcr,Nat.reduceEqDiff,Nat.reduceLT,Nat.reduceAdd,Nat.reduceSub,reduceIte,Kt_P,zcs,zct,zcu,zcv,zcw,zcx,zcy,zcz,zda,zdb,zdc,zdd,zde,zdf,zdg,zdh,zdi,zdj,zdk,reduceCtorEq,zdl,zdm,zdn,goInt,zdo,zdp,zdq,zdr,zds,zdt,zdu,zdv,zdw,zdx,zdy,zdz,zea,zeb,zec,zed,zdk,zee,zef,zeg,zeh,zei,zej,zek,zel,zem,zen,zeo,zep,zeq,zer,zes,zet,zeu,zev,zew,zex,zey,ya,yb,yc,yd,ye,yf,ts_int,ts_int64,ts_bool,ts_ints,ts_post,ts_posts,yg,yh,yi,yj,yk,yl,ym,ts_intsl,ts_int64s,ts_bools,ts_side,ts_sideb,ts_pints,ts_pbool,aPure,aLen,ywa,ywb,ywc,ywd,ywe,ywf,ywg,ywh,ywi,ywj,ywk,ywl,ywm,ywn,ywo,ts_string,ts_u8,ts_u64,ts_error,ts_bytes,ts_arr,ts_reader,ts_pbuilder,ts_builder,cv_64_8,cv_8_64,cv_64_i64,cv_i64_64,cv_64_int,cv_int_64,errV_0,Trc_cons,Trc_nil,hadd]
    have hB2 := hE2.box hB1 fun h => h
    refine ⟨?_, ?_, ?_⟩
    · intro ip hip
      simp only [List.mem_cons,List.not_mem_nil,or_false] at hip
      rcases hip with rfl | rfl
      · exact stable_op Kt_same rfl rfl rfl (evPR_conv (k' := .u64) (n := ((n % 128 : Nat) : Int)) Tryd.underlying57 Tryd.underlying5 (by simp only [zaa,zab,zac,zad,zae,zaf,zag,zah,zai,zaj,zak,zal,zam,zan,zao,zap,zaq,zar,zas,zat,zau,zav,zaw,zax,zay,zaz,zba,aUn,zbb,zbc,zbd,zbe,zbf,zbg,zbh,zbi,zbj,zbk,zbl,zbm,zbn,flat,simple,zbo,zbp,zbq,zbr,zbs,zbt,zbu,zbv,zbw,zbx,zby,zbz,zca,zcb,zcc,zcd,zce,zcf,zcg,zch,zci,zcj,zck,zcl,zcm,zcn,zco,zcp,zcq,zcr,Nat.reduceEqDiff,Nat.reduceLT,Nat.reduceAdd,Nat.reduceSub,reduceIte,Kt_P,zcs,zct,zcu,zcv,zcw,zcx,zcy,zcz,zda,zdb,zdc,zdd,zde,zdf,zdg,zdh,zdi,zdj,zdk,reduceCtorEq,zdl,zdm,zdn,goInt,zdo,zdp,zdq,zdr,zds,zdt,zdu,zdv,zdw,zdx,zdy,zdz,zea,zeb,zec,zed,zdk,zee,zef,zeg,zeh,zei,zej,zek,zel,zem,zen,zeo,zep,zeq,zer,zes,zet,zeu,zev,zew,zex,zey,ya,yb,yc,yd,ye,yf,ts_int,ts_int64,ts_bool,ts_ints,ts_post,ts_posts,yg,yh,yi,yj,yk,yl,ym,ts_intsl,ts_int64s,ts_bools,ts_side,ts_sideb,ts_pints,ts_pbool,aPure,aLen,ywa,ywb,ywc,ywd,ywe,ywf,ywg,ywh,ywi,ywj,ywk,ywl,ywm,ywn,ywo,ts_string,ts_u8,ts_u64,ts_error,ts_bytes,ts_arr,ts_reader,ts_pbuilder,ts_builder,cv_64_8,cv_8_64,cv_64_i64,cv_i64_64,cv_64_int,cv_int_64,errV_0]) hcv)
      · exact stable_op Kt_same rfl rfl rfl (evPR_str (b := b1) (n := 1) (c := 1) (l := [UInt8.ofNat (n % 128 + 128)]) Tryd.underlying51 Tryd.underlying9 Tryd.underlying5 (by simp only [zaa,zab,zac,zad,zae,zaf,zag,zah,zai,zaj,zak,zal,zam,zan,zao,zap,zaq,zar,zas,zat,zau,zav,zaw,zax,zay,zaz,zba,aUn,zbb,zbc,zbd,zbe,zbf,zbg,zbh,zbi,zbj,zbk,zbl,zbm,zbn,flat,simple,zbo,zbp,zbq,zbr,zbs,zbt,zbu,zbv,zbw,zbx,zby,zbz,zca,zcb,zcc,zcd,zce,zcf,zcg,zch,zci,zcj,zck,zcl,zcm,zcn,zco,zcp,zcq,zcr,Nat.reduceEqDiff,Nat.reduceLT,Nat.reduceAdd,Nat.reduceSub,reduceIte,Kt_P,zcs,zct,zcu,zcv,zcw,zcx,zcy,zcz,zda,zdb,zdc,zdd,zde,zdf,zdg,zdh,zdi,zdj,zdk,reduceCtorEq,zdl,zdm,zdn,goInt,zdo,zdp,zdq,zdr,zds,zdt,zdu,zdv,zdw,zdx,zdy,zdz,zea,zeb,zec,zed,zdk,zee,zef,zeg,zeh,zei,zej,zek,zel,zem,zen,zeo,zep,zeq,zer,zes,zet,zeu,zev,zew,zex,zey,ya,yb,yc,yd,ye,yf,ts_int,ts_int64,ts_bool,ts_ints,ts_post,ts_posts,yg,yh,yi,yj,yk,yl,ym,ts_intsl,ts_int64s,ts_bools,ts_side,ts_sideb,ts_pints,ts_pbool,aPure,aLen,ywa,ywb,ywc,ywd,ywe,ywf,ywg,ywh,ywi,ywj,ywk,ywl,ywm,ywn,ywo,ts_string,ts_u8,ts_u64,ts_error,ts_bytes,ts_arr,ts_reader,ts_pbuilder,ts_builder,cv_64_8,cv_8_64,cv_64_i64,cv_i64_64,cv_64_int,cv_int_64,errV_0]) (by rw [acells_of hB2.arow (by simp)]; rfl))
    · intro jp hjp
      simp only [List.mem_cons,List.not_mem_nil,or_false] at hjp
      subst hjp
      exact late_of Kt_same rfl rfl rfl (by rw [← hb1]; exact hB1.2) (by rw [← hb1]; exact hB2.2)
    · refine hq _ _ (hE1.trans hE2) ?_
      rw [bl_append, bl_mk, hs]
      conv => rhs; rw [uintL]
      rw [dif_neg hge']
      rfl
theorem refSigned_ok (n : Int) (hn : inI64 n) (A : AHeap) (Q : Value → AHeap → Prop) (hq : Q (.int .u64 ((zigN n).toNat : Nat)) A) : Cal Kt 49 #[.int .i64 n] A Q := by
  refine Cal_of (nt := 14) (rs := [.tmp 2]) fn_rSigned rfl rfl rfl (Nat.le_of_ble_eq_true rfl) ?_
  have hn' := hn
  unfold inI64 at hn'
  simp only [zaa,zab,zac,zad,zae,zaf,zag,zah,zai,zaj,zak,zal,zam,zan,zao,zap,zaq,zar,zas,zat,zau,zav,zaw,zax,zay,zaz,zba,aUn,zbb,zbc,zbd,zbe,zbf,zbg,zbh,zbi,zbj,zbk,zbl,zbm,zbn,flat,simple,zbo,zbp,zbq,zbr,zbs,zbt,zbu,zbv,zbw,zbx,zby,zbz,zca,zcb,zcc,zcd,zce,zcf,zcg,zch,zci,zcj,zck,zcl,zcm,zcn,zco,zcp,zcq,zcr,Nat.reduceEqDiff,Nat.reduceLT,Nat.reduceAdd,Nat.reduceSub,reduceIte,Kt_P,zcs,zct,zcu,zcv,zcw,zcx,zcy,zcz,zda,zdb,zdc,zdd,zde,zdf,zdg,zdh,zdi,zdj,zdk,reduceCtorEq,zdl,zdm,zdn,goInt,zdo,zdp,zdq,zdr,zds,zdt,zdu,zdv,zdw,zdx,zdy,zdz,zea,zeb,zec,zed,zdk,zee,zef,zeg,zeh,zei,zej,zek,zel,zem,zen,zeo,zep,zeq,zer,zes,zet,zeu,zev,zew,zex,zey,ya,yb,yc,yd,ye,yf,ts_int,ts_int64,ts_bool,ts_ints,ts_post,ts_posts,yg,yh,yi,yj,yk,yl,ym,ts_intsl,ts_int64s,ts_bools,ts_side,ts_sideb,ts_pints,ts_pbool,aPure,aLen,ywa,ywb,ywc,ywd,ywe,ywf,ywg,ywh,ywi,ywj,ywk,ywl,ywm,ywn,ywo,ts_string,ts_u8,ts_u64,ts_error,ts_bytes,ts_arr,ts_reader,ts_pbuilder,ts_builder,cv_64_8,cv_8_64,cv_64_i64,cv_i64_64,cv_64_int,cv_int_64,errV_0]
  refine Way_of (fun h0 => ?_) (fun h0 => ?_)
  · have h1 : IntKind.u64.wrap n = n := wrap_u64 (by omega)
    have h2 : IntKind.u64.wrap (2 * n) = ((zigN n).toNat : Int) := by
      rw [wrap_u64 (by omega)]
      unfold zigN
      rw [if_pos h0]
      omega
    simp only [zaa,zab,zac,zad,zae,zaf,zag,zah,zai,zaj,zak,zal,zam,zan,zao,zap,zaq,zar,zas,zat,zau,zav,zaw,zax,zay,zaz,zba,aUn,zbb,zbc,zbd,zbe,zbf,zbg,zbh,zbi,zbj,zbk,zbl,zbm,zbn,flat,simple,zbo,zbp,zbq,zbr,zbs,zbt,zbu,zbv,zbw,zbx,zby,zbz,zca,zcb,zcc,zcd,zce,zcf,zcg,zch,zci,zcj,zck,zcl,zcm,zcn,zco,zcp,zcq,zcr,Nat.reduceEqDiff,Nat.reduceLT,Nat.reduceAdd,Nat.reduceSub,reduceIte,Kt_P,zcs,zct,zcu,zcv,zcw,zcx,zcy,zcz,zda,zdb,zdc,zdd,zde,zdf,zdg,zdh,zdi,zdj,zdk,reduceCtorEq,zdl,zdm,zdn,goInt,zdo,zdp,zdq,zdr,zds,zdt,zdu,zdv,zdw,zdx,zdy,zdz,zea,zeb,zec,zed,zdk,zee,zef,zeg,zeh,zei,zej,zek,zel,zem,zen,zeo,zep,zeq,zer,zes,zet,zeu,zev,zew,zex,zey,ya,yb,yc,yd,ye,yf,ts_int,ts_int64,ts_bool,ts_ints,ts_post,ts_posts,yg,yh,yi,yj,yk,yl,ym,ts_intsl,ts_int64s,ts_bools,ts_side,ts_sideb,ts_pints,ts_pbool,aPure,aLen,ywa,ywb,ywc,ywd,ywe,ywf,ywg,ywh,ywi,ywj,ywk,ywl,ywm,ywn,ywo,ts_string,ts_u8,ts_u64,ts_error,ts_bytes,ts_arr,ts_reader,ts_pbuilder,ts_builder,cv_64_8,cv_8_64,cv_64_i64,cv_i64_64,cv_64_int,cv_int_64,errV_0,h1,h2]
    exact hq
  · have h1 : IntKind.i64.wrap (n + 1) = n + 1 := wrap_i64 (by omega)
    have h2 : IntKind.i64.wrap ((0 - (n + 1))) = (0 - (n + 1)) := wrap_i64 (by omega)
    have h3 : IntKind.u64.wrap ((0 - (n + 1))) = (0 - (n + 1)) := wrap_u64 (by omega)
    have h4 : IntKind.u64.wrap (2 * (0 - (n + 1))) = 2 * (0 - (n + 1)) := wrap_u64 (by omega)
    have h5 : IntKind.u64.wrap (2 * (0 - (n + 1)) + 1) = ((zigN n).toNat : Int) := by
      rw [wrap_u64 (by omega)]
      unfold zigN
      rw [if_neg h0]
      omega
    simp only [zaa,zab,zac,zad,zae,zaf,zag,zah,zai,zaj,zak,zal,zam,zan,zao,zap,zaq,zar,zas,zat,zau,zav,zaw,zax,zay,zaz,zba,aUn,zbb,zbc,zbd,zbe,zbf,zbg,zbh,zbi,zbj,zbk,zbl,zbm,zbn,flat,simple,zbo,zbp,zbq,zbr,zbs,zbt,zbu,zbv,zbw,zbx,zby,zbz,zca,zcb,zcc,zcd,zce,zcf,zcg,zch,zci,zcj,zck,zcl,zcm,zcn,zco,zcp,zcq,zcr,Nat.reduceEqDiff,Nat.reduceLT,Nat.reduceAdd,Nat.reduceSub,reduceIte,Kt_P,zcs,zct,zcu,zcv,zcw,zcx,zcy,zcz,zda,zdb,zdc,zdd,zde,zdf,zdg,zdh,zdi,zdj,zdk,reduceCtorEq,zdl,zdm,zdn,goInt,zdo,zdp,zdq,zdr,zds,zdt,zdu,zdv,zdw,zdx,zdy,zdz,zea,zeb,zec,zed,zdk,zee,zef,zeg,zeh,zei,zej,zek,zel,zem,zen,zeo,zep,zeq,zer,zes,zet,zeu,zev,zew,zex,zey,ya,yb,yc,yd,ye,yf,ts_int,ts_int64,ts_bool,ts_ints,ts_post,ts_posts,yg,yh,yi,yj,yk,yl,ym,ts_intsl,ts_int64s,ts_bools,ts_side,ts_sideb,ts_pints,ts_pbool,aPure,aLen,ywa,ywb,ywc,ywd,ywe,ywf,ywg,ywh,ywi,ywj,ywk,ywl,ywm,ywn,ywo,ts_string,ts_u8,ts_u64,ts_error,ts_bytes,ts_arr,ts_reader,ts_pbuilder,ts_builder,cv_64_8,cv_8_64,cv_64_i64,cv_i64_64,cv_64_int,cv_int_64,errV_0,h1,h2,h3,h4,h5]
    exact hq
theorem refInt_ok (n : Int) (hn : inI64 n) (A : AHeap) (Q : Value → AHeap → Prop) (hq : ∀ s A', Ext A A' → bl s = uintL (zigN n).toNat → Q (.string s) A') : Cal Kt 28 #[.int .i64 n] A Q := by
  refine Cal_of (nt := 6) (rs := [.tmp 2]) fn_rInt rfl rfl rfl (Nat.le_of_ble_eq_true rfl) ?_
  have hn' := hn
  unfold inI64 at hn'
  have hz : (zigN n).toNat < 18446744073709551616 := by unfold zigN; split <;> omega
  simp only [zaa,zab,zac,zad,zae,zaf,zag,zah,zai,zaj,zak,zal,zam,zan,zao,zap,zaq,zar,zas,zat,zau,zav,zaw,zax,zay,zaz,zba,aUn,zbb,zbc,zbd,zbe,zbf,zbg,zbh,zbi,zbj,zbk,zbl,zbm,zbn,flat,simple,zbo,zbp,zbq,zbr,zbs,zbt,zbu,zbv,zbw,zbx,zby,zbz,zca,zcb,zcc,zcd,zce,zcf,zcg,zch,zci,zcj,zck,zcl,zcm,zcn,zco,zcp,zcq,zcr,Nat.reduceEqDiff,Nat.reduceLT,Nat.reduceAdd,Nat.reduceSub,reduceIte,Kt_P,zcs,zct,zcu,zcv,zcw,zcx,zcy,zcz,zda,zdb,zdc,zdd,zde,zdf,zdg,zdh,zdi,zdj,zdk,reduceCtorEq,zdl,zdm,zdn,goInt,zdo,zdp,zdq,zdr,zds,zdt,zdu,zdv,zdw,zdx,zdy,zdz,zea,zeb,zec,zed,zdk,zee,zef,zeg,zeh,zei,zej,zek,zel,zem,zen,zeo,zep,zeq,zer,zes,zet,zeu,zev,zew,zex,zey,ya,yb,yc,yd,ye,yf,ts_int,ts_int64,ts_bool,ts_ints,ts_post,ts_posts,yg,yh,yi,yj,yk,yl,ym,ts_intsl,ts_int64s,ts_bools,ts_side,ts_sideb,ts_pints,ts_pbool,aPure,aLen,ywa,ywb,ywc,ywd,ywe,ywf,ywg,ywh,ywi,ywj,ywk,ywl,ywm,ywn,ywo,ts_string,ts_u8,ts_u64,ts_error,ts_bytes,ts_arr,ts_reader,ts_pbuilder,ts_builder,cv_64_8,cv_8_64,cv_64_i64,cv_i64_64,cv_64_int,cv_int_64,errV_0]
  rw [CalF_cal (Kt_prim (by decide) _ _)]
  refine refSigned_ok n hn A _ ?_
  simp only [zaa,zab,zac,zad,zae,zaf,zag,zah,zai,zaj,zak,zal,zam,zan,zao,zap,zaq,zar,zas,zat,zau,zav,zaw,zax,zay,zaz,zba,aUn,zbb,zbc,zbd,zbe,zbf,zbg,zbh,zbi,zbj,zbk,zbl,zbm,zbn,flat,simple,zbo,zbp,zbq,zbr,zbs,zbt,zbu,zbv,zbw,zbx,zby,zbz,zca,zcb,zcc,zcd,zce,zcf,zcg,zch,zci,zcj,zck,zcl,zcm,zcn,zco,zcp,zcq,zcr,Nat.reduceEqDiff,Nat.reduceLT,Nat.reduceAdd,Nat.reduceSub,reduceIte,Kt_P,zcs,zct,zcu,zcv,zcw,zcx,zcy,zcz,zda,zdb,zdc,zdd,zde,zdf,zdg,zdh,zdi,zdj,zdk,reduceCtorEq,zdl,zdm,zdn,goInt,zdo,zdp,zdq,zdr,zds,zdt,zdu,zdv,zdw,zdx,zdy,zdz,zea,zeb,zec,zed,zdk,zee,zef,zeg,zeh,zei,zej,zek,zel,zem,zen,zeo,zep,zeq,zer,zes,zet,zeu,zev,zew,zex,zey,ya,yb,yc,yd,ye,yf,ts_int,ts_int64,ts_bool,ts_ints,ts_post,ts_posts,yg,yh,yi,yj,yk,yl,ym,ts_intsl,ts_int64s,ts_bools,ts_side,ts_sideb,ts_pints,ts_pbool,aPure,aLen,ywa,ywb,ywc,ywd,ywe,ywf,ywg,ywh,ywi,ywj,ywk,ywl,ywm,ywn,ywo,ts_string,ts_u8,ts_u64,ts_error,ts_bytes,ts_arr,ts_reader,ts_pbuilder,ts_builder,cv_64_8,cv_8_64,cv_64_i64,cv_i64_64,cv_64_int,cv_int_64,errV_0]
  rw [CalF_cal (Kt_prim (by decide) _ _)]
  refine refUint_ok _ hz A _ fun s A' hE hs => ?_
  simp only [zaa,zab,zac,zad,zae,zaf,zag,zah,zai,zaj,zak,zal,zam,zan,zao,zap,zaq,zar,zas,zat,zau,zav,zaw,zax,zay,zaz,zba,aUn,zbb,zbc,zbd,zbe,zbf,zbg,zbh,zbi,zbj,zbk,zbl,zbm,zbn,flat,simple,zbo,zbp,zbq,zbr,zbs,zbt,zbu,zbv,zbw,zbx,zby,zbz,zca,zcb,zcc,zcd,zce,zcf,zcg,zch,zci,zcj,zck,zcl,zcm,zcn,zco,zcp,zcq,zcr,Nat.reduceEqDiff,Nat.reduceLT,Nat.reduceAdd,Nat.reduceSub,reduceIte,Kt_P,zcs,zct,zcu,zcv,zcw,zcx,zcy,zcz,zda,zdb,zdc,zdd,zde,zdf,zdg,zdh,zdi,zdj,zdk,reduceCtorEq,zdl,zdm,zdn,goInt,zdo,zdp,zdq,zdr,zds,zdt,zdu,zdv,zdw,zdx,zdy,zdz,zea,zeb,zec,zed,zdk,zee,zef,zeg,zeh,zei,zej,zek,zel,zem,zen,zeo,zep,zeq,zer,zes,zet,zeu,zev,zew,zex,zey,ya,yb,yc,yd,ye,yf,ts_int,ts_int64,ts_bool,ts_ints,ts_post,ts_posts,yg,yh,yi,yj,yk,yl,ym,ts_intsl,ts_int64s,ts_bools,ts_side,ts_sideb,ts_pints,ts_pbool,aPure,aLen,ywa,ywb,ywc,ywd,ywe,ywf,ywg,ywh,ywi,ywj,ywk,ywl,ywm,ywn,ywo,ts_string,ts_u8,ts_u64,ts_error,ts_bytes,ts_arr,ts_reader,ts_pbuilder,ts_builder,cv_64_8,cv_8_64,cv_64_i64,cv_i64_64,cv_64_int,cv_int_64,errV_0]
  exact hq s A' hE hs
end Go.Sh
