/- texts merged: RatD RatE RatL RatM RatN RatO -/
import Derived.Test.YtcggohkbmhdohaaGreatDoorRtA
import Derived.Test.YtcggohkbmhdohaaGreatDoorRtC
import Derived.Test.YtcggohkbmhdohaaGreatDoorNtDE
import Derived.Test.YtcggohkbmhdohaaGreatDoorNatZ
import Derived.Test.YtcggohkbmhdohaaGreatDoorRtB
namespace Go.Proofs.YtcggohkbmhdohaaGreatDoor
open Go.RowKit
set_option linter.unusedVariables false
set_option maxHeartbeats 3200000 in
set_option maxRecDepth 100000 in
theorem qMul_any (u v:Value) (a b:Rat) (w:World) (hu:QV w u a) (hv:QV w v b) (ha:QB a) (hb:QB b) :
 Calls Tryz.prog 74 #[u,v] w fun e w' => ∃ r,e=.returned r ∧ QV w' r (a * b) ∧ Ext w w':=by
 have QA:=Lib.hid (fun W (hx:Ext w W) => hu.ext hx)
 have QBB:=Lib.hid (fun W (hx:Ext w W) => hv.ext hx)
 obtain ⟨q,ao,l,c,bo,m,d,rfl,HN1,_,HD1⟩:=hu.opn
 obtain ⟨q2,ao2,l2,c2,bo2,m2,d2,rfl,HN2,_,HD2⟩:=hv.opn
 have da0:=a.den_pos
 have db0:=b.den_pos
 have HNM:=Lib.hid (fun W (hx:Ext w W) => mul_any _ _ a.den b.den W (HD1.out W hx) (HD2.out W hx) (by have:=ha.2; omega) (by have:=hb.2; omega))
 have s4:(dig (a.den * b.den)).length ≤ 200000000:=dig_len_mul (a:=100000000) (b:=100000000) ha.2 hb.2
 have hdd:((a.den * b.den:Nat):Int) ≠ 0:=by have:=Nat.mul_pos da0 db0; omega
 have HM1:=Lib.hid (fun W (hx:Ext w W) => intMul_any _ _ a.num b.num W (HN1.out W hx) (HN2.out W hx) (by have:=ha.1; omega) (by have:=hb.1; omega))
 have s1:(dig (a.num * b.num).natAbs).length ≤ 200000000:=dig_len_mulI (a:=100000000) (b:=100000000) ha.1 hb.1
 have HFR:=Lib.hid (fun (x y:Value) W hx hy => by
  have:=frac_any x y (a.num * b.num) ((a.den * b.den:Nat):Int) W hx hy hdd (by omega) (by rw [Int.natAbs_natCast]; omega)
  rw [rat_mul] at this
  exact this)
 clear hu hv hdd s1 s4 ha hb da0 db0
 go_enter Tryz.func74,Tryz.ntmps74
 go_wp2_with fail
 obtain ⟨W3,hW3⟩:∃ W3,(((w.alloc (.cells #[.bool q,.slice ao l c,.slice bo m d] 89)).alloc (.cells #[.bool q2,.slice ao2 l2 c2,.slice bo2 m2 d2] 89)).alloc (.cells #[.bool false,.slice none 0 0,.slice none 0 0] 89))=W3:=⟨_,rfl⟩
 have HRES:=Lib.hid (fun w2 (X:Ext W3 w2) => res3 (w:=w) (w2:=w2) (g:=w.heap.size + 2) (t:=89) (by simp) (((Ext.refl w).alloc (.cells #[.bool q,.slice ao l c,.slice bo m d] 89)).alloc (.cells #[.bool q2,.slice ao2 l2 c2,.slice bo2 m2 d2] 89)) (by rw [hW3]; exact X))
 have k1:W3.cell? ⟨w.heap.size,0,none⟩=some (.bool q):=by rw [← hW3]; simp [go_sem]
 have k2:W3.cell? ⟨w.heap.size,1,none⟩=some (.slice ao l c):=by rw [← hW3]; simp [go_sem]
 have k3:W3.cell? ⟨w.heap.size,2,none⟩=some (.slice bo m d):=by rw [← hW3]; simp [go_sem]
 have k4:W3.cell? ⟨w.heap.size + 1,0,none⟩=some (.bool q2):=by rw [← hW3]; simp [go_sem]
 have k5:W3.cell? ⟨w.heap.size + 1,1,none⟩=some (.slice ao2 l2 c2):=by rw [← hW3]; simp [go_sem]
 have k6:W3.cell? ⟨w.heap.size + 1,2,none⟩=some (.slice bo2 m2 d2):=by rw [← hW3]; simp [go_sem]
 have HX:Ext w W3:=by rw [← hW3]; exact (((Ext.refl w).alloc _).alloc _).alloc _
 rw [hW3]
 clear hW3
 go_region_held3 (fun w' => w'.cell? ⟨w.heap.size,0,none⟩=some (.bool q) ∧ w'.cell? ⟨w.heap.size,1,none⟩=some (.slice ao l c) ∧ w'.cell? ⟨w.heap.size,2,none⟩=some (.slice bo m d) ∧ w'.cell? ⟨w.heap.size + 1,0,none⟩=some (.bool q2) ∧ w'.cell? ⟨w.heap.size + 1,1,none⟩=some (.slice ao2 l2 c2) ∧ w'.cell? ⟨w.heap.size + 1,2,none⟩=some (.slice bo2 m2 d2)) (first | exact ⟨k1,k2,k3,k4,k5,k6⟩ | exact ⟨X5.cell k1,X5.cell k2,X5.cell k3,X5.cell k4,X5.cell k5,X5.cell k6⟩ | exact ⟨X6.cell k1,X6.cell k2,X6.cell k3,X6.cell k4,X6.cell k5,X6.cell k6⟩ | exact ⟨X7.cell k1,X7.cell k2,X7.cell k3,X7.cell k4,X7.cell k5,X7.cell k6⟩ | exact ⟨R.out.far _ _ _ _ _ _ (by omega) (X7.cell k1),R.out.far _ _ _ _ _ _ (by omega) (X7.cell k2),R.out.far _ _ _ _ _ _ (by omega) (X7.cell k3),R.out.far _ _ _ _ _ _ (by omega) (X7.cell k4),R.out.far _ _ _ _ _ _ (by omega) (X7.cell k5),R.out.far _ _ _ _ _ _ (by omega) (X7.cell k6)⟩ | go_keep)
  (first
  | (go_at_call 120; refine (HM1.out _ (by exact HX.drew)).mono ?_; rintro e w5 ⟨r5,rfl,hr5,Y5⟩; have X5:Ext W3 w5:=(Ext.refl W3).drew.trans Y5; obtain ⟨q15,ao15,l15,c15,rfl,_,_,_⟩:=hr5.opn; have HR5:=Lib.hid hr5; clear hr5)
  | (go_at_call 122; refine (HNM.out _ (by exact HX.trans X5)).mono ?_; rintro e w6 ⟨r6,rfl,hr6,Y6⟩; have X6:Ext W3 w6:=X5.trans Y6; obtain ⟨ao16,l16,c16,rfl,_,HR6⟩:=hr6.opn; clear hr6)
  | (go_at_call 119; refine (HFR.out _ _ _ (HR5.out.ext Y6) (natInt HR6.out)).mono ?_; rintro e w7 ⟨r7,rfl,hr7,Y7⟩; have X7:Ext W3 w7:=X6.trans Y7; obtain ⟨s17,ao17,l17,c17,bo17,m17,d17,rfl,_,_,_⟩:=hr7.opn; have HR7:=Lib.hid hr7; clear hr7; have R:=HRES.out _ X7; have f0:=R.f0; have c0:=R.c0; have f1:=R.f1; have c1:=R.c1; have f2:=R.f2; have e2:=R.c2; have R:=Lib.hid R))
 all_goals
  go_wp2_with fail
  refine bodyPost_ret (v:=.agg #[.bool s17,.slice ao17 l17 c17,.slice bo17 m17 d17]) (by simp [results,Tryz.results74,go_sem,R.out.d0,R.out.d1,R.out.d2]) rfl ?_
  exact ⟨_,rfl,R.out.q _ _ _ HR7.out,R.out.ext _ _ _⟩
set_option maxHeartbeats 3200000 in
set_option maxRecDepth 100000 in
theorem qDiv_any (u v:Value) (a b:Rat) (w:World) (hu:QV w u a) (hv:QV w v b) (ha:QB a) (hb:QB b) (hb0:b ≠ 0) :
 Calls Tryz.prog 117 #[u,v] w fun e w' => ∃ r,e=.returned r ∧ QV w' r (a / b) ∧ Ext w w':=by
 have QA:=Lib.hid (fun W (hx:Ext w W) => hu.ext hx)
 have QBB:=Lib.hid (fun W (hx:Ext w W) => hv.ext hx)
 obtain ⟨q,ao,l,c,bo,m,d,rfl,HN1,_,HD1⟩:=hu.opn
 obtain ⟨q2,ao2,l2,c2,bo2,m2,d2,rfl,HN2,_,HD2⟩:=hv.opn
 have da0:=a.den_pos
 have db0:=b.den_pos
 have HM1:=Lib.hid (fun W (hx:Ext w W) => intMul_any _ _ a.num (b.den:Int) W (HN1.out W hx) (natInt (HD2.out W hx)) (by have:=ha.1; omega) (by have:=hb.2; rw [Int.natAbs_natCast]; omega))
 have HM2:=Lib.hid (fun W (hx:Ext w W) => intMul_any _ _ b.num (a.den:Int) W (HN2.out W hx) (natInt (HD1.out W hx)) (by have:=hb.1; omega) (by have:=ha.2; rw [Int.natAbs_natCast]; omega))
 have s1:(dig (a.num * (b.den:Int)).natAbs).length ≤ 200000000:=dig_len_mulI (a:=100000000) (b:=100000000) ha.1 (by rw [Int.natAbs_natCast]; exact hb.2)
 have s2:(dig (b.num * (a.den:Int)).natAbs).length ≤ 200000000:=dig_len_mulI (a:=100000000) (b:=100000000) hb.1 (by rw [Int.natAbs_natCast]; exact ha.2)
 have hdd:b.num * (a.den:Int) ≠ 0:=by
  have h1:b.num ≠ 0:=fun h => hb0 (Rat.num_eq_zero.1 h)
  exact Int.mul_ne_zero h1 (by omega)
 have HFR:=Lib.hid (fun (x y:Value) W hx hy => by
  have:=frac_any x y (a.num * (b.den:Int)) (b.num * (a.den:Int)) W hx hy hdd (by omega) (by omega)
  rw [rat_div] at this
  exact this)
 clear hu hv hdd s1 s2 ha hb da0 db0 hb0
 go_enter Tryz.func117,Tryz.ntmps117
 go_wp2_with fail
 obtain ⟨W3,hW3⟩:∃ W3,(((w.alloc (.cells #[.bool q,.slice ao l c,.slice bo m d] 89)).alloc (.cells #[.bool q2,.slice ao2 l2 c2,.slice bo2 m2 d2] 89)).alloc (.cells #[.bool false,.slice none 0 0,.slice none 0 0] 89))=W3:=⟨_,rfl⟩
 have HRES:=Lib.hid (fun w2 (X:Ext W3 w2) => res3 (w:=w) (w2:=w2) (g:=w.heap.size + 2) (t:=89) (by simp) (((Ext.refl w).alloc (.cells #[.bool q,.slice ao l c,.slice bo m d] 89)).alloc (.cells #[.bool q2,.slice ao2 l2 c2,.slice bo2 m2 d2] 89)) (by rw [hW3]; exact X))
 have k1:W3.cell? ⟨w.heap.size,0,none⟩=some (.bool q):=by rw [← hW3]; simp [go_sem]
 have k2:W3.cell? ⟨w.heap.size,1,none⟩=some (.slice ao l c):=by rw [← hW3]; simp [go_sem]
 have k3:W3.cell? ⟨w.heap.size,2,none⟩=some (.slice bo m d):=by rw [← hW3]; simp [go_sem]
 have k4:W3.cell? ⟨w.heap.size + 1,0,none⟩=some (.bool q2):=by rw [← hW3]; simp [go_sem]
 have k5:W3.cell? ⟨w.heap.size + 1,1,none⟩=some (.slice ao2 l2 c2):=by rw [← hW3]; simp [go_sem]
 have k6:W3.cell? ⟨w.heap.size + 1,2,none⟩=some (.slice bo2 m2 d2):=by rw [← hW3]; simp [go_sem]
 have HX:Ext w W3:=by rw [← hW3]; exact (((Ext.refl w).alloc _).alloc _).alloc _
 rw [hW3]
 clear hW3
 go_region_held3 (fun w' => w'.cell? ⟨w.heap.size,0,none⟩=some (.bool q) ∧ w'.cell? ⟨w.heap.size,1,none⟩=some (.slice ao l c) ∧ w'.cell? ⟨w.heap.size,2,none⟩=some (.slice bo m d) ∧ w'.cell? ⟨w.heap.size + 1,0,none⟩=some (.bool q2) ∧ w'.cell? ⟨w.heap.size + 1,1,none⟩=some (.slice ao2 l2 c2) ∧ w'.cell? ⟨w.heap.size + 1,2,none⟩=some (.slice bo2 m2 d2)) (first | exact ⟨k1,k2,k3,k4,k5,k6⟩ | exact ⟨X5.cell k1,X5.cell k2,X5.cell k3,X5.cell k4,X5.cell k5,X5.cell k6⟩ | exact ⟨X6.cell k1,X6.cell k2,X6.cell k3,X6.cell k4,X6.cell k5,X6.cell k6⟩ | exact ⟨X7.cell k1,X7.cell k2,X7.cell k3,X7.cell k4,X7.cell k5,X7.cell k6⟩ | exact ⟨R.out.far _ _ _ _ _ _ (by omega) (X7.cell k1),R.out.far _ _ _ _ _ _ (by omega) (X7.cell k2),R.out.far _ _ _ _ _ _ (by omega) (X7.cell k3),R.out.far _ _ _ _ _ _ (by omega) (X7.cell k4),R.out.far _ _ _ _ _ _ (by omega) (X7.cell k5),R.out.far _ _ _ _ _ _ (by omega) (X7.cell k6)⟩ | go_keep)
  (first
  | (go_at_call_of 120 (Value.agg #[.bool q,.slice ao l c]); refine (HM1.out _ (by exact HX.drew)).mono ?_; rintro e w5 ⟨r5,rfl,hr5,Y5⟩; have X5:Ext W3 w5:=(Ext.refl W3).drew.trans Y5; obtain ⟨q15,ao15,l15,c15,rfl,_,_,_⟩:=hr5.opn; have HR5:=Lib.hid hr5; clear hr5)
  | (go_at_call_of 120 (Value.agg #[.bool q2,.slice ao2 l2 c2]); refine (HM2.out _ (by exact HX.trans X5)).mono ?_; rintro e w6 ⟨r6,rfl,hr6,Y6⟩; have X6:Ext W3 w6:=X5.trans Y6; obtain ⟨q16,ao16,l16,c16,rfl,_,_,_⟩:=hr6.opn; have HR6:=Lib.hid hr6; clear hr6)
  | (go_at_call 119; refine (HFR.out _ _ _ (HR5.out.ext Y6) HR6.out).mono ?_; rintro e w7 ⟨r7,rfl,hr7,Y7⟩; have X7:Ext W3 w7:=X6.trans Y7; obtain ⟨s17,ao17,l17,c17,bo17,m17,d17,rfl,_,_,_⟩:=hr7.opn; have HR7:=Lib.hid hr7; clear hr7; have R:=HRES.out _ X7; have f0:=R.f0; have c0:=R.c0; have f1:=R.f1; have c1:=R.c1; have f2:=R.f2; have e2:=R.c2; have R:=Lib.hid R))
 all_goals
  go_wp2_with fail
  refine bodyPost_ret (v:=.agg #[.bool s17,.slice ao17 l17 c17,.slice bo17 m17 d17]) (by simp [results,Tryz.results117,go_sem,R.out.d0,R.out.d1,R.out.d2]) rfl ?_
  exact ⟨_,rfl,R.out.q _ _ _ HR7.out,R.out.ext _ _ _⟩
set_option maxHeartbeats 3200000 in
set_option maxRecDepth 100000 in
theorem qCmp_any (u v:Value) (a b:Rat) (w:World) (hu:QV w u a) (hv:QV w v b) (ha:QB a) (hb:QB b) :
 Calls Tryz.prog 108 #[u,v] w fun e w' => e=.returned (.int .i64 (a.num * b.den - b.num * a.den).sign) ∧ Ext w w':=by
 have QA:=Lib.hid (fun W (hx:Ext w W) => hu.ext hx)
 have QBB:=Lib.hid (fun W (hx:Ext w W) => hv.ext hx)
 obtain ⟨q,ao,l,c,bo,m,d,rfl,HN1,_,HD1⟩:=hu.opn
 obtain ⟨q2,ao2,l2,c2,bo2,m2,d2,rfl,HN2,_,HD2⟩:=hv.opn
 have da0:=a.den_pos
 have db0:=b.den_pos
 have HM1:=Lib.hid (fun W (hx:Ext w W) => intMul_any _ _ a.num (b.den:Int) W (HN1.out W hx) (natInt (HD2.out W hx)) (by have:=ha.1; omega) (by have:=hb.2; rw [Int.natAbs_natCast]; omega))
 have HM2:=Lib.hid (fun W (hx:Ext w W) => intMul_any _ _ b.num (a.den:Int) W (HN2.out W hx) (natInt (HD1.out W hx)) (by have:=hb.1; omega) (by have:=ha.2; rw [Int.natAbs_natCast]; omega))
 have s1:(dig (a.num * (b.den:Int)).natAbs).length ≤ 200000000:=dig_len_mulI (a:=100000000) (b:=100000000) ha.1 (by rw [Int.natAbs_natCast]; exact hb.2)
 have s2:(dig (b.num * (a.den:Int)).natAbs).length ≤ 200000000:=dig_len_mulI (a:=100000000) (b:=100000000) hb.1 (by rw [Int.natAbs_natCast]; exact ha.2)
 have HCM:=Lib.hid (fun (x y:Value) W hx hy => intCmp_any x y (a.num * (b.den:Int)) (b.num * (a.den:Int)) W hx hy (by omega) (by omega))
 generalize (a.num * (b.den:Int) - b.num * (a.den:Int)).sign=sgn at *
 clear hu hv s1 s2 ha hb da0 db0
 go_enter Tryz.func108,Tryz.ntmps108
 go_wp2_with fail
 obtain ⟨W3,hW3⟩:∃ W3,(((w.alloc (.cells #[.bool q,.slice ao l c,.slice bo m d] 89)).alloc (.cells #[.bool q2,.slice ao2 l2 c2,.slice bo2 m2 d2] 89)))=W3:=⟨_,rfl⟩
 have k1:W3.cell? ⟨w.heap.size,0,none⟩=some (.bool q):=by rw [← hW3]; simp [go_sem]
 have k2:W3.cell? ⟨w.heap.size,1,none⟩=some (.slice ao l c):=by rw [← hW3]; simp [go_sem]
 have k3:W3.cell? ⟨w.heap.size,2,none⟩=some (.slice bo m d):=by rw [← hW3]; simp [go_sem]
 have k4:W3.cell? ⟨w.heap.size + 1,0,none⟩=some (.bool q2):=by rw [← hW3]; simp [go_sem]
 have k5:W3.cell? ⟨w.heap.size + 1,1,none⟩=some (.slice ao2 l2 c2):=by rw [← hW3]; simp [go_sem]
 have k6:W3.cell? ⟨w.heap.size + 1,2,none⟩=some (.slice bo2 m2 d2):=by rw [← hW3]; simp [go_sem]
 have HX:Ext w W3:=by rw [← hW3]; exact ((Ext.refl w).alloc _).alloc _
 rw [hW3]
 clear hW3
 go_region_held3 (fun w' => w'.cell? ⟨w.heap.size,0,none⟩=some (.bool q) ∧ w'.cell? ⟨w.heap.size,1,none⟩=some (.slice ao l c) ∧ w'.cell? ⟨w.heap.size,2,none⟩=some (.slice bo m d) ∧ w'.cell? ⟨w.heap.size + 1,0,none⟩=some (.bool q2) ∧ w'.cell? ⟨w.heap.size + 1,1,none⟩=some (.slice ao2 l2 c2) ∧ w'.cell? ⟨w.heap.size + 1,2,none⟩=some (.slice bo2 m2 d2)) (first | exact ⟨k1,k2,k3,k4,k5,k6⟩ | exact ⟨X5.cell k1,X5.cell k2,X5.cell k3,X5.cell k4,X5.cell k5,X5.cell k6⟩ | exact ⟨X6.cell k1,X6.cell k2,X6.cell k3,X6.cell k4,X6.cell k5,X6.cell k6⟩ | exact ⟨X7.cell k1,X7.cell k2,X7.cell k3,X7.cell k4,X7.cell k5,X7.cell k6⟩ | go_keep)
  (first
  | (go_at_call_of 120 (Value.agg #[.bool q,.slice ao l c]); refine (HM1.out _ (by exact HX.drew)).mono ?_; rintro e w5 ⟨r5,rfl,hr5,Y5⟩; have X5:Ext W3 w5:=(Ext.refl W3).drew.trans Y5; obtain ⟨q15,ao15,l15,c15,rfl,_,_,_⟩:=hr5.opn; have HR5:=Lib.hid hr5; clear hr5)
  | (go_at_call_of 120 (Value.agg #[.bool q2,.slice ao2 l2 c2]); refine (HM2.out _ (by exact HX.trans X5)).mono ?_; rintro e w6 ⟨r6,rfl,hr6,Y6⟩; have X6:Ext W3 w6:=X5.trans Y6; obtain ⟨q16,ao16,l16,c16,rfl,_,_,_⟩:=hr6.opn; have HR6:=Lib.hid hr6; clear hr6)
  | (go_at_call 142; refine (HCM.out _ _ _ (HR5.out.ext Y6) HR6.out).mono ?_; rintro e w7 ⟨rfl,Y7⟩; have X7:Ext W3 w7:=X6.trans Y7))
 all_goals
  go_wp2_with fail
  go_ret
  exact ⟨rfl,HX.trans X7⟩
set_option maxHeartbeats 3200000 in
set_option maxRecDepth 100000 in
theorem qSign_any (u:Value) (a:Rat) (w:World) (hu:QV w u a) :
 Calls Tryz.prog 86 #[u] w fun e w' => e=.returned (.int .i64 a.num.sign) ∧ Ext w w':=by
 obtain ⟨q,ao,l,c,bo,m,d,rfl,HN1,HL1,HD1⟩:=hu.opn
 have HS:=Lib.hid (fun W (hx:Ext w W) => intSign_any _ a.num W (HN1.out W hx))
 clear hu
 go_enter Tryz.func86,Tryz.ntmps86
 go_wp2_with fail
 refine (HS.out _ ((Ext.refl w).alloc _)).mono ?_
 rintro e w2 ⟨rfl,X2⟩
 go_wp2_with fail
 go_ret
 exact ⟨rfl,((Ext.refl w).alloc _).trans X2⟩
set_option maxHeartbeats 1600000 in
set_option maxRecDepth 100000 in
theorem rchk_syn (s n d b:ByteArray) (neg ok dn dd nz dz d1 g1:Bool) (w:World)
 (HP:Hid (∀ W,Calls Tryz.prog 123 #[.string s,.string ⟨#[45]⟩] W fun e w' => e=.returned (.tuple #[.string b,.bool neg]) ∧ w'=W))
 (HC:Hid (∀ W,Calls Tryz.prog 124 #[.string b,.string ⟨#[47]⟩] W fun e w' => e=.returned (.tuple #[.string n,.string d,.bool ok]) ∧ Ext W w'))
 (HDN:Hid (∀ W,Calls Tryz.prog 167 #[.string n] W fun e w' => e=.returned (.bool dn) ∧ Ext W w'))
 (HDD:Hid (∀ W,Calls Tryz.prog 167 #[.string d] W fun e w' => e=.returned (.bool dd) ∧ Ext W w'))
 (hnz:(n.toList == [48])=nz) (hdz:(d.toList == [48])=dz) (hd1:(d.toList == [49])=d1)
 (HRN:Hid (dn=true → n.size ≤ 2000 → ∀ W,Calls Tryz.prog 126 #[.string n] W fun e w' => ∃ u,e=.returned u ∧ NatV w' u (numB n) ∧ Ext W w'))
 (HRD:Hid (dd=true → d.size ≤ 2000 → ∀ W,Calls Tryz.prog 126 #[.string d] W fun e w' => ∃ u,e=.returned u ∧ NatV w' u (numB d) ∧ Ext W w'))
 (HGG:Hid (dn=true → dd=true → n.size ≤ 2000 → d.size ≤ 2000 → ∀ (x y:Value) W,NatV W x (numB n) → NatV W y (numB d) → Calls Tryz.prog 148 #[x,y] W fun e w' => ∃ r,e=.returned r ∧ NatV w' r (Nat.gcd (numB n) (numB d)) ∧ Ext W w'))
 (HON:Hid (∀ (x:Value) W,NatV W x (Nat.gcd (numB n) (numB d)) → Calls Tryz.prog 135 #[x] W fun e w' => e=.returned (.bool g1) ∧ Ext W w'))
 (h:dn=false ∨ (dn=true ∧ ok=true ∧ dd=false) ∨ (dn=true ∧ (ok=false ∨ (ok=true ∧ dd=true)) ∧ neg=true ∧ nz=true)) :
 Calls Tryz.prog 137 #[.string s] w fun e w' => e=.returned (.int .i64 5) ∧ Ext w w':=by
 clear HRN HRD HGG HON
 rcases h with rfl | ⟨rfl,rfl,rfl⟩ | ⟨rfl,rfl | ⟨rfl,rfl⟩,rfl,rfl⟩
 · go_enter Tryz.func137,Tryz.ntmps137
   go_wp2_with fail
   refine (HP.out _).mono ?_
   rintro e w1 ⟨rfl,rfl⟩
   go_wp2_with fail
   refine (HC.out _).mono ?_
   rintro e w2 ⟨rfl,X2⟩
   go_wp2_with fail
   refine (HDN.out _).mono ?_
   rintro e w3 ⟨rfl,X3⟩
   have X:=X2.trans X3
   clear X2 X3
   go_wp2_with fail
   go_ret
   exact ⟨by first | rfl | simp,X⟩
 · go_enter Tryz.func137,Tryz.ntmps137
   go_wp2_with fail
   refine (HP.out _).mono ?_
   rintro e w1 ⟨rfl,rfl⟩
   go_wp2_with fail
   refine (HC.out _).mono ?_
   rintro e w2 ⟨rfl,X2⟩
   go_wp2_with fail
   refine (HDN.out _).mono ?_
   rintro e w3 ⟨rfl,X3⟩
   have X:=X2.trans X3
   clear X2 X3
   go_wp2_with fail
   refine (HDD.out _).mono ?_
   rintro e w4 ⟨rfl,X4⟩
   have X:=X.trans X4
   clear X4
   go_wp2_with fail
   go_ret
   exact ⟨by first | rfl | simp,X⟩
 · go_enter Tryz.func137,Tryz.ntmps137
   go_wp2_with fail
   refine (HP.out _).mono ?_
   rintro e w1 ⟨rfl,rfl⟩
   go_wp2_with fail
   refine (HC.out _).mono ?_
   rintro e w2 ⟨rfl,X2⟩
   go_wp2_with fail
   refine (HDN.out _).mono ?_
   rintro e w3 ⟨rfl,X3⟩
   have X:=X2.trans X3
   clear X2 X3
   go_wp2_with fail
   go_ret
   exact ⟨by first | rfl | simp,X⟩
 · go_enter Tryz.func137,Tryz.ntmps137
   go_wp2_with fail
   refine (HP.out _).mono ?_
   rintro e w1 ⟨rfl,rfl⟩
   go_wp2_with fail
   refine (HC.out _).mono ?_
   rintro e w2 ⟨rfl,X2⟩
   go_wp2_with fail
   refine (HDN.out _).mono ?_
   rintro e w3 ⟨rfl,X3⟩
   have X:=X2.trans X3
   clear X2 X3
   go_wp2_with fail
   refine (HDD.out _).mono ?_
   rintro e w4 ⟨rfl,X4⟩
   have X:=X.trans X4
   clear X4
   go_wp2_with fail
   go_ret
   exact ⟨by first | rfl | simp,X⟩
set_option maxHeartbeats 1600000 in
set_option maxRecDepth 100000 in
theorem rchk_big (s n d b:ByteArray) (neg ok dn dd nz dz d1 g1:Bool) (w:World)
 (HP:Hid (∀ W,Calls Tryz.prog 123 #[.string s,.string ⟨#[45]⟩] W fun e w' => e=.returned (.tuple #[.string b,.bool neg]) ∧ w'=W))
 (HC:Hid (∀ W,Calls Tryz.prog 124 #[.string b,.string ⟨#[47]⟩] W fun e w' => e=.returned (.tuple #[.string n,.string d,.bool ok]) ∧ Ext W w'))
 (HDN:Hid (∀ W,Calls Tryz.prog 167 #[.string n] W fun e w' => e=.returned (.bool dn) ∧ Ext W w'))
 (HDD:Hid (∀ W,Calls Tryz.prog 167 #[.string d] W fun e w' => e=.returned (.bool dd) ∧ Ext W w'))
 (hnz:(n.toList == [48])=nz) (hdz:(d.toList == [48])=dz) (hd1:(d.toList == [49])=d1)
 (HRN:Hid (dn=true → n.size ≤ 2000 → ∀ W,Calls Tryz.prog 126 #[.string n] W fun e w' => ∃ u,e=.returned u ∧ NatV w' u (numB n) ∧ Ext W w'))
 (HRD:Hid (dd=true → d.size ≤ 2000 → ∀ W,Calls Tryz.prog 126 #[.string d] W fun e w' => ∃ u,e=.returned u ∧ NatV w' u (numB d) ∧ Ext W w'))
 (HGG:Hid (dn=true → dd=true → n.size ≤ 2000 → d.size ≤ 2000 → ∀ (x y:Value) W,NatV W x (numB n) → NatV W y (numB d) → Calls Tryz.prog 148 #[x,y] W fun e w' => ∃ r,e=.returned r ∧ NatV w' r (Nat.gcd (numB n) (numB d)) ∧ Ext W w'))
 (HON:Hid (∀ (x:Value) W,NatV W x (Nat.gcd (numB n) (numB d)) → Calls Tryz.prog 135 #[x] W fun e w' => e=.returned (.bool g1) ∧ Ext W w'))
 (h1:dn=true) (h2:ok=false ∨ (ok=true ∧ dd=true)) (hneg:neg=false ∨ (neg=true ∧ nz=false)) (hb:2000 < n.size ∨ (n.size ≤ 2000 ∧ 2000 < d.size)) :
 Calls Tryz.prog 137 #[.string s] w fun e w' => e=.returned (.int .i64 2) ∧ Ext w w':=by
 have hb:(2000:Int) < (n.size:Int) ∨ ((n.size:Int) ≤ 2000 ∧ (2000:Int) < (d.size:Int)):=by omega
 clear HRN HRD HGG HON
 subst h1
 rcases h2 with rfl | ⟨rfl,rfl⟩
 · rcases hneg with rfl | ⟨rfl,rfl⟩
   all_goals
    rcases hb with hb | ⟨hb1,hb⟩
    all_goals
     go_enter Tryz.func137,Tryz.ntmps137
     go_wp2_with fail
     refine (HP.out _).mono ?_
     rintro e w1 ⟨rfl,rfl⟩
     go_wp2_with fail
     refine (HC.out _).mono ?_
     rintro e w2 ⟨rfl,X2⟩
     go_wp2_with fail
     refine (HDN.out _).mono ?_
     rintro e w3 ⟨rfl,X3⟩
     have X:=X2.trans X3
     clear X2 X3
     go_wp2_with fail
     go_ret
     exact ⟨by first | rfl | simp,X⟩
 · rcases hneg with rfl | ⟨rfl,rfl⟩
   all_goals
    rcases hb with hb | ⟨hb1,hb⟩
    all_goals
     go_enter Tryz.func137,Tryz.ntmps137
     go_wp2_with fail
     refine (HP.out _).mono ?_
     rintro e w1 ⟨rfl,rfl⟩
     go_wp2_with fail
     refine (HC.out _).mono ?_
     rintro e w2 ⟨rfl,X2⟩
     go_wp2_with fail
     refine (HDN.out _).mono ?_
     rintro e w3 ⟨rfl,X3⟩
     have X:=X2.trans X3
     clear X2 X3
     go_wp2_with fail
     refine (HDD.out _).mono ?_
     rintro e w4 ⟨rfl,X4⟩
     have X:=X.trans X4
     clear X4
     go_wp2_with fail
     go_ret
     exact ⟨by first | rfl | simp,X⟩
set_option maxHeartbeats 1600000 in
set_option maxRecDepth 100000 in
theorem rchk_plain (s n d b:ByteArray) (neg ok dn dd nz dz d1 g1:Bool) (w:World)
 (HP:Hid (∀ W,Calls Tryz.prog 123 #[.string s,.string ⟨#[45]⟩] W fun e w' => e=.returned (.tuple #[.string b,.bool neg]) ∧ w'=W))
 (HC:Hid (∀ W,Calls Tryz.prog 124 #[.string b,.string ⟨#[47]⟩] W fun e w' => e=.returned (.tuple #[.string n,.string d,.bool ok]) ∧ Ext W w'))
 (HDN:Hid (∀ W,Calls Tryz.prog 167 #[.string n] W fun e w' => e=.returned (.bool dn) ∧ Ext W w'))
 (HDD:Hid (∀ W,Calls Tryz.prog 167 #[.string d] W fun e w' => e=.returned (.bool dd) ∧ Ext W w'))
 (hnz:(n.toList == [48])=nz) (hdz:(d.toList == [48])=dz) (hd1:(d.toList == [49])=d1)
 (HRN:Hid (dn=true → n.size ≤ 2000 → ∀ W,Calls Tryz.prog 126 #[.string n] W fun e w' => ∃ u,e=.returned u ∧ NatV w' u (numB n) ∧ Ext W w'))
 (HRD:Hid (dd=true → d.size ≤ 2000 → ∀ W,Calls Tryz.prog 126 #[.string d] W fun e w' => ∃ u,e=.returned u ∧ NatV w' u (numB d) ∧ Ext W w'))
 (HGG:Hid (dn=true → dd=true → n.size ≤ 2000 → d.size ≤ 2000 → ∀ (x y:Value) W,NatV W x (numB n) → NatV W y (numB d) → Calls Tryz.prog 148 #[x,y] W fun e w' => ∃ r,e=.returned r ∧ NatV w' r (Nat.gcd (numB n) (numB d)) ∧ Ext W w'))
 (HON:Hid (∀ (x:Value) W,NatV W x (Nat.gcd (numB n) (numB d)) → Calls Tryz.prog 135 #[x] W fun e w' => e=.returned (.bool g1) ∧ Ext W w'))
 (h1:dn=true) (h2:ok=false) (hneg:neg=false ∨ (neg=true ∧ nz=false)) (hb:n.size ≤ 2000) (hb2:d.size ≤ 2000) :
 Calls Tryz.prog 137 #[.string s] w fun e w' => e=.returned (.int .i64 0) ∧ Ext w w':=by
 have hbi:(n.size:Int) ≤ 2000:=by omega
 have hbi2:(d.size:Int) ≤ 2000:=by omega
 clear HRN HRD HGG HON hb hb2
 subst h1
 subst h2
 rcases hneg with rfl | ⟨rfl,rfl⟩
 · go_enter Tryz.func137,Tryz.ntmps137
   go_wp2_with fail
   refine (HP.out _).mono ?_
   rintro e w1 ⟨rfl,rfl⟩
   go_wp2_with fail
   refine (HC.out _).mono ?_
   rintro e w2 ⟨rfl,X2⟩
   go_wp2_with fail
   refine (HDN.out _).mono ?_
   rintro e w3 ⟨rfl,X3⟩
   have X:=X2.trans X3
   clear X2 X3
   go_wp2_with fail
   go_ret
   exact ⟨by first | rfl | simp,X⟩
 · go_enter Tryz.func137,Tryz.ntmps137
   go_wp2_with fail
   refine (HP.out _).mono ?_
   rintro e w1 ⟨rfl,rfl⟩
   go_wp2_with fail
   refine (HC.out _).mono ?_
   rintro e w2 ⟨rfl,X2⟩
   go_wp2_with fail
   refine (HDN.out _).mono ?_
   rintro e w3 ⟨rfl,X3⟩
   have X:=X2.trans X3
   clear X2 X3
   go_wp2_with fail
   go_ret
   exact ⟨by first | rfl | simp,X⟩
set_option maxHeartbeats 1600000 in
set_option maxRecDepth 100000 in
theorem rchk_form (s n d b:ByteArray) (neg ok dn dd nz dz d1 g1:Bool) (w:World)
 (HP:Hid (∀ W,Calls Tryz.prog 123 #[.string s,.string ⟨#[45]⟩] W fun e w' => e=.returned (.tuple #[.string b,.bool neg]) ∧ w'=W))
 (HC:Hid (∀ W,Calls Tryz.prog 124 #[.string b,.string ⟨#[47]⟩] W fun e w' => e=.returned (.tuple #[.string n,.string d,.bool ok]) ∧ Ext W w'))
 (HDN:Hid (∀ W,Calls Tryz.prog 167 #[.string n] W fun e w' => e=.returned (.bool dn) ∧ Ext W w'))
 (HDD:Hid (∀ W,Calls Tryz.prog 167 #[.string d] W fun e w' => e=.returned (.bool dd) ∧ Ext W w'))
 (hnz:(n.toList == [48])=nz) (hdz:(d.toList == [48])=dz) (hd1:(d.toList == [49])=d1)
 (HRN:Hid (dn=true → n.size ≤ 2000 → ∀ W,Calls Tryz.prog 126 #[.string n] W fun e w' => ∃ u,e=.returned u ∧ NatV w' u (numB n) ∧ Ext W w'))
 (HRD:Hid (dd=true → d.size ≤ 2000 → ∀ W,Calls Tryz.prog 126 #[.string d] W fun e w' => ∃ u,e=.returned u ∧ NatV w' u (numB d) ∧ Ext W w'))
 (HGG:Hid (dn=true → dd=true → n.size ≤ 2000 → d.size ≤ 2000 → ∀ (x y:Value) W,NatV W x (numB n) → NatV W y (numB d) → Calls Tryz.prog 148 #[x,y] W fun e w' => ∃ r,e=.returned r ∧ NatV w' r (Nat.gcd (numB n) (numB d)) ∧ Ext W w'))
 (HON:Hid (∀ (x:Value) W,NatV W x (Nat.gcd (numB n) (numB d)) → Calls Tryz.prog 135 #[x] W fun e w' => e=.returned (.bool g1) ∧ Ext W w'))
 (h1:dn=true) (h2:ok=true) (h3:dd=true) (hneg:neg=false ∨ (neg=true ∧ nz=false)) (hb:n.size ≤ 2000) (hb2:d.size ≤ 2000) (hf:dz=true ∨ (dz=false ∧ d1=true)) :
 Calls Tryz.prog 137 #[.string s] w fun e w' => e=.returned (.int .i64 3) ∧ Ext w w':=by
 have hbi:(n.size:Int) ≤ 2000:=by omega
 have hbi2:(d.size:Int) ≤ 2000:=by omega
 clear HRN HRD HGG HON hb hb2
 subst h1
 subst h2
 subst h3
 rcases hneg with rfl | ⟨rfl,rfl⟩
 all_goals
  rcases hf with rfl | ⟨rfl,rfl⟩
  all_goals
   go_enter Tryz.func137,Tryz.ntmps137
   go_wp2_with fail
   refine (HP.out _).mono ?_
   rintro e w1 ⟨rfl,rfl⟩
   go_wp2_with fail
   refine (HC.out _).mono ?_
   rintro e w2 ⟨rfl,X2⟩
   go_wp2_with fail
   refine (HDN.out _).mono ?_
   rintro e w3 ⟨rfl,X3⟩
   have X:=X2.trans X3
   clear X2 X3
   go_wp2_with fail
   refine (HDD.out _).mono ?_
   rintro e w4 ⟨rfl,X4⟩
   have X:=X.trans X4
   clear X4
   go_wp2_with fail
   go_ret
   exact ⟨by first | rfl | simp,X⟩
set_option maxHeartbeats 1600000 in
set_option maxRecDepth 100000 in
theorem rchk_gcd (s n d b:ByteArray) (neg ok dn dd nz dz d1 g1:Bool) (w:World)
 (HP:Hid (∀ W,Calls Tryz.prog 123 #[.string s,.string ⟨#[45]⟩] W fun e w' => e=.returned (.tuple #[.string b,.bool neg]) ∧ w'=W))
 (HC:Hid (∀ W,Calls Tryz.prog 124 #[.string b,.string ⟨#[47]⟩] W fun e w' => e=.returned (.tuple #[.string n,.string d,.bool ok]) ∧ Ext W w'))
 (HDN:Hid (∀ W,Calls Tryz.prog 167 #[.string n] W fun e w' => e=.returned (.bool dn) ∧ Ext W w'))
 (HDD:Hid (∀ W,Calls Tryz.prog 167 #[.string d] W fun e w' => e=.returned (.bool dd) ∧ Ext W w'))
 (hnz:(n.toList == [48])=nz) (hdz:(d.toList == [48])=dz) (hd1:(d.toList == [49])=d1)
 (HRN:Hid (dn=true → n.size ≤ 2000 → ∀ W,Calls Tryz.prog 126 #[.string n] W fun e w' => ∃ u,e=.returned u ∧ NatV w' u (numB n) ∧ Ext W w'))
 (HRD:Hid (dd=true → d.size ≤ 2000 → ∀ W,Calls Tryz.prog 126 #[.string d] W fun e w' => ∃ u,e=.returned u ∧ NatV w' u (numB d) ∧ Ext W w'))
 (HGG:Hid (dn=true → dd=true → n.size ≤ 2000 → d.size ≤ 2000 → ∀ (x y:Value) W,NatV W x (numB n) → NatV W y (numB d) → Calls Tryz.prog 148 #[x,y] W fun e w' => ∃ r,e=.returned r ∧ NatV w' r (Nat.gcd (numB n) (numB d)) ∧ Ext W w'))
 (HON:Hid (∀ (x:Value) W,NatV W x (Nat.gcd (numB n) (numB d)) → Calls Tryz.prog 135 #[x] W fun e w' => e=.returned (.bool g1) ∧ Ext W w'))
 (h1:dn=true) (h2:ok=true) (h3:dd=true) (hneg:neg=false ∨ (neg=true ∧ nz=false)) (hb:n.size ≤ 2000) (hb2:d.size ≤ 2000) (hf:dz=false) (hf2:d1=false) :
 Calls Tryz.prog 137 #[.string s] w fun e w' => e=.returned (.int .i64 (if g1=true then 0 else 3)) ∧ Ext w w':=by
 have hbi:(n.size:Int) ≤ 2000:=by omega
 have hbi2:(d.size:Int) ≤ 2000:=by omega
 have HRN2:=Lib.hid (HRN.out h1 hb)
 have HRD2:=Lib.hid (HRD.out h3 hb2)
 have HGG2:=Lib.hid (HGG.out h1 h3 hb hb2)
 clear hb hb2 HRN HRD HGG
 subst h1
 subst h2
 subst h3
 subst hf
 subst hf2
 rcases hneg with rfl | ⟨rfl,rfl⟩
 all_goals
  cases g1
  all_goals
   go_enter Tryz.func137,Tryz.ntmps137
   go_wp2_with fail
   refine (HP.out _).mono ?_
   rintro e w1 ⟨rfl,rfl⟩
   go_wp2_with fail
   refine (HC.out _).mono ?_
   rintro e w2 ⟨rfl,X2⟩
   go_wp2_with fail
   refine (HDN.out _).mono ?_
   rintro e w3 ⟨rfl,X3⟩
   have X:=X2.trans X3
   clear X2 X3
   go_wp2_with fail
   refine (HDD.out _).mono ?_
   rintro e w4 ⟨rfl,X4⟩
   have X:=X.trans X4
   clear X4
   go_wp2_with fail
   refine (HRN2.out _).mono ?_
   rintro e w5 ⟨u5,rfl,h5,X5⟩
   go_wp2_with fail
   refine (HRD2.out _).mono ?_
   rintro e w6 ⟨u6,rfl,h6,X6⟩
   have HG5:=Lib.hid (h5.ext X6)
   go_wp2_with fail
   refine (HGG2.out _ _ _ HG5.out h6).mono ?_
   rintro e w7 ⟨u7,rfl,h7,X7⟩
   go_wp2_with fail
   refine (HON.out _ _ h7).mono ?_
   rintro e w8 ⟨rfl,X8⟩
   have X:=(((X.trans X5).trans X6).trans X7).trans X8
   go_wp2_with fail
   go_ret
   exact ⟨by first | rfl | simp,X⟩
theorem ratCheck_any (s:ByteArray) (w:World) (hs:s.size ≤ 9223372036854775806) :
 Calls Tryz.prog 137 #[.string s] w fun e w' => e=.returned (.int .i64 (ratErr s)) ∧ Ext w w':=by
 have HP:Hid (∀ W,Calls Tryz.prog 123 #[.string s,.string ⟨#[45]⟩] W fun e w' => e=.returned (.tuple #[.string (bodyB s),.bool (negB s)]) ∧ w'=W):=fun W => Tryz.strings_CutPrefix s ⟨#[45]⟩ W
 have hb:=bodyB_le s
 have hn:=numT_le s
 have hd:=denT_le s
 have HC:Hid (∀ W,Calls Tryz.prog 124 #[.string (bodyB s),.string ⟨#[47]⟩] W fun e w' => e=.returned (.tuple #[.string (numT s),.string (denT s),.bool (hasD s)]) ∧ Ext W w'):=fun W => cut1_any (bodyB s) 47 W (by omega)
 have HDN:Hid (∀ W,Calls Tryz.prog 167 #[.string (numT s)] W fun e w' => e=.returned (.bool (natB (numT s).data.toList)) ∧ Ext W w'):=fun W => digits_any (numT s) W (by omega)
 have HDD:Hid (∀ W,Calls Tryz.prog 167 #[.string (denT s)] W fun e w' => e=.returned (.bool (natB (denT s).data.toList)) ∧ Ext W w'):=fun W => digits_any (denT s) W (by omega)
 have HRN:=Lib.hid (fun (h1:natB (numT s).data.toList=true) (h2:(numT s).size ≤ 2000) W => read_any (numT s) W (by omega) (natB_iff.1 h1).1 (by have:=numB_dig2 h1 h2; unfold numB at this; omega))
 have HRD:=Lib.hid (fun (h1:natB (denT s).data.toList=true) (h2:(denT s).size ≤ 2000) W => read_any (denT s) W (by omega) (natB_iff.1 h1).1 (by have:=numB_dig2 h1 h2; unfold numB at this; omega))
 have HGG:=Lib.hid (fun (h1:natB (numT s).data.toList=true) (h2:natB (denT s).data.toList=true) (h3:(numT s).size ≤ 2000) (h4:(denT s).size ≤ 2000) (x y:Value) W hx hy => gcd_any x y (numB (numT s)) (numB (denT s)) W hx hy (by have:=numB_dig2 h1 h3; omega) (by have:=numB_dig2 h2 h4; omega))
 have HON:=Lib.hid (fun (x:Value) W hx => one_any x (Nat.gcd (numB (numT s)) (numB (denT s))) W hx)
 have hmiss:=denT_miss (s:=s)
 have he:ratErr s=if synB s=true then 5 else if bigB s=true then 2 else if frmB s=true then 3 else 0:=rfl
 have h1:synB s=(!natB (numT s).data.toList || ((hasD s && !natB (denT s).data.toList) || (negB s && isT (numT s) 48))):=rfl
 have h2:bigB s=(decide (2000 < (numT s).size) || decide (2000 < (denT s).size)):=rfl
 have h3:frmB s=(hasD s && (isT (denT s) 48 || (isT (denT s) 49 || !decide (Nat.gcd (numB (numT s)) (numB (denT s))=1)))):=rfl
 obtain ⟨g1,hg1⟩:∃ g1,decide (Nat.gcd (numB (numT s)) (numB (denT s))=1)=g1:=⟨_,rfl⟩
 rw [hg1] at h3
 simp only [hg1] at HON
 obtain ⟨nz,hnz⟩:∃ x,isT (numT s) 48=x:=⟨_,rfl⟩
 obtain ⟨dz,hdz⟩:∃ x,isT (denT s) 48=x:=⟨_,rfl⟩
 obtain ⟨d1,hd1⟩:∃ x,isT (denT s) 49=x:=⟨_,rfl⟩
 rw [hnz] at h1
 rw [hdz,hd1] at h3
 obtain ⟨dn,hdn⟩:∃ x,natB (numT s).data.toList=x:=⟨_,rfl⟩
 obtain ⟨dd,hdd⟩:∃ x,natB (denT s).data.toList=x:=⟨_,rfl⟩
 obtain ⟨ok,hok⟩:∃ x,hasD s=x:=⟨_,rfl⟩
 obtain ⟨neg,hneg⟩:∃ x,negB s=x:=⟨_,rfl⟩
 rw [hdn,hdd,hok,hneg] at h1
 rw [hok] at h3 HC hmiss
 rw [hdn] at HDN
 rw [hdd] at HDD
 rw [hneg] at HP
 simp only [hdn] at HRN HGG
 simp only [hdd] at HRD HGG
 rw [he]
 by_cases c1:dn=false ∨ (dn=true ∧ ok=true ∧ dd=false) ∨ (dn=true ∧ (ok=false ∨ (ok=true ∧ dd=true)) ∧ neg=true ∧ nz=true)
 · have:=rchk_syn s _ _ _ neg ok dn dd nz dz d1 g1 w HP HC HDN HDD hnz hdz hd1 HRN HRD HGG HON c1
   rw [if_pos (by rw [h1]; revert c1; cases dn <;> cases ok <;> cases dd <;> cases neg <;> cases nz <;> simp)]
   exact this
 · have e1:synB s=false:=by rw [h1]; revert c1; cases dn <;> cases ok <;> cases dd <;> cases neg <;> cases nz <;> simp
   have p1:dn=true:=by revert c1; cases dn <;> simp
   have p2:ok=false ∨ (ok=true ∧ dd=true):=by revert c1; cases dn <;> cases ok <;> cases dd <;> simp
   have p3:neg=false ∨ (neg=true ∧ nz=false):=by revert c1; cases dn <;> cases ok <;> cases dd <;> cases neg <;> cases nz <;> simp
   rw [if_neg (by rw [e1]; simp)]
   by_cases c2:2000 < (numT s).size ∨ ((numT s).size ≤ 2000 ∧ 2000 < (denT s).size)
   · have:=rchk_big s _ _ _ neg ok dn dd nz dz d1 g1 w HP HC HDN HDD hnz hdz hd1 HRN HRD HGG HON p1 p2 p3 c2
     rw [if_pos (by
      rw [h2]
      rcases c2 with h | ⟨_,h⟩
      · rw [decide_eq_true h]; rfl
      · rw [decide_eq_true h,Bool.or_true])]
     exact this
   · have q1:(numT s).size ≤ 2000:=by omega
     have q2:(denT s).size ≤ 2000:=by omega
     rw [if_neg (by rw [h2,decide_eq_false (by omega),decide_eq_false (by omega)]; simp),h3]
     rcases p2 with hok0 | ⟨hok1,hdd1⟩
     · have:=rchk_plain s _ _ _ neg ok dn dd nz dz d1 g1 w HP HC HDN HDD hnz hdz hd1 HRN HRD HGG HON p1 hok0 p3 q1 q2
       rw [if_neg (by rw [hok0]; simp)]
       exact this
     · by_cases c3:dz=true ∨ (dz=false ∧ d1=true)
       · have:=rchk_form s _ _ _ neg ok dn dd nz dz d1 g1 w HP HC HDN HDD hnz hdz hd1 HRN HRD HGG HON p1 hok1 hdd1 p3 q1 q2 c3
         rw [if_pos (by rw [hok1]; revert c3; cases dz <;> cases d1 <;> simp)]
         exact this
       · have z0:dz=false:=by revert c3; cases dz <;> simp
         have z1:d1=false:=by revert c3; cases dz <;> cases d1 <;> simp
         have:=rchk_gcd s _ _ _ neg ok dn dd nz dz d1 g1 w HP HC HDN HDD hnz hdz hd1 HRN HRD HGG HON p1 hok1 hdd1 p3 q1 q2 z0 z1
         rw [hok1,z0,z1]
         cases g1
         · exact this
         · exact this
structure RatOk (s:ByteArray):Prop where
 n1:natB (numT s).data.toList=true
 n2:(numT s).size ≤ 2000
 d1:hasD s=true → natB (denT s).data.toList=true
 d2:hasD s=true → (denT s).size ≤ 2000
 d3:hasD s=true → numB (denT s) ≠ 0
 d4:hasD s=true → numB (denT s) ≠ 1
 g:hasD s=true → Nat.gcd (numB (numT s)) (numB (denT s))=1
 ng:negB s=true → numB (numT s) ≠ 0
theorem text_of {s:ByteArray} (h:natB s.data.toList=true):s=decT (numB s):=by
 have h1:=canon_dd (natB_iff.1 h)
 unfold decT numB
 rw [← h1]
theorem isT_num {s:ByteArray} {c:UInt8} {k:Nat} (h:natB s.data.toList=true) (hk:decT k=⟨#[c]⟩) (hf:isT s c=false):numB s ≠ k:=by
 intro e
 have h1:=text_of h
 rw [e,hk] at h1
 rw [h1] at hf
 unfold isT at hf
 rw [Lib.toList_data] at hf
 simp at hf
theorem ratErr_ok {s:ByteArray} (h:ratErr s=0):RatOk s:=by
 unfold ratErr at h
 have h1:synB s=false:=by
  cases hb:synB s with
  | false => rfl
  | true => rw [hb,if_pos rfl] at h; cases h
 have h2:bigB s=false:=by
  cases hb:bigB s with
  | false => rfl
  | true => rw [h1,hb,if_neg (by simp),if_pos rfl] at h; cases h
 have h3:frmB s=false:=by
  cases hb:frmB s with
  | false => rfl
  | true => rw [h1,h2,hb,if_neg (by simp),if_neg (by simp),if_pos rfl] at h; cases h
 unfold synB at h1
 unfold bigB at h2
 unfold frmB at h3
 rw [Bool.or_eq_false_iff,Bool.or_eq_false_iff] at h1
 rw [Bool.or_eq_false_iff,decide_eq_false_iff_not,decide_eq_false_iff_not] at h2
 obtain ⟨a1,a2,a3⟩:=h1
 have n1:natB (numT s).data.toList=true:=by simpa using a1
 have hd:hasD s=true → natB (denT s).data.toList=true ∧ isT (denT s) 48=false ∧ isT (denT s) 49=false ∧ Nat.gcd (numB (numT s)) (numB (denT s))=1:=by
  intro hh
  rw [hh,Bool.true_and] at a2 h3
  rw [Bool.or_eq_false_iff,Bool.or_eq_false_iff] at h3
  exact ⟨by simpa using a2,h3.1,h3.2.1,by simpa using h3.2.2⟩
 exact {
  n1:=n1
  n2:=by omega
  d1:=fun hh => (hd hh).1
  d2:=fun hh => by omega
  d3:=fun hh => isT_num (hd hh).1 (decT_zero_iff.2 rfl) (hd hh).2.1
  d4:=fun hh => isT_num (c:=49) (hd hh).1 (by rw [decT,dd_small (by omega)]; rfl) (hd hh).2.2.1
  g:=fun hh => (hd hh).2.2.2
  ng:=fun hh => by
   rw [hh,Bool.true_and] at a3
   exact isT_num n1 (decT_zero_iff.2 rfl) a3 }
def denN (s:ByteArray):Nat:=if hasD s=true then numB (denT s) else 1
def ratOf (s:ByteArray):Rat:=mkRat (sg (negB s) (numB (numT s))) (denN s)
theorem ratOf_parts {s:ByteArray} (h:RatOk s):(ratOf s).num=sg (negB s) (numB (numT s)) ∧ (ratOf s).den=denN s:=by
 have h0:denN s ≠ 0:=by
  unfold denN
  split
  · rename_i hh; exact h.d3 hh
  · omega
 have hg:Nat.gcd (Int.natAbs (sg (negB s) (numB (numT s)))) (denN s)=1:=by
  rw [sg_abs]
  unfold denN
  split
  · rename_i hh; exact h.g hh
  · exact Nat.gcd_one_right _
 unfold ratOf
 rw [Rat.mkRat_def,dif_neg h0,Rat.normalize_eq_mk' _ _ h0 hg]
 exact ⟨rfl,rfl⟩
theorem ratOf_QB {s:ByteArray} (h:RatOk s):QB (ratOf s):=by
 obtain ⟨h1,h2⟩:=ratOf_parts h
 refine ⟨?_,?_⟩
 · rw [h1,sg_abs]
   have:=numB_dig2 h.n1 h.n2
   omega
 · rw [h2]
   unfold denN
   split
   · rename_i hh
     have:=numB_dig2 (h.d1 hh) (h.d2 hh)
     omega
   · rw [← one_len]; omega
set_option maxHeartbeats 3200000 in
set_option maxRecDepth 100000 in
theorem parse_any (s:ByteArray) (w:World) (h:RatOk s) (hs:s.size ≤ 9223372036854775806) :
 Calls Tryz.prog 75 #[.string s] w fun e w' => ∃ r,e=.returned r ∧ QV w' r (ratOf s) ∧ Ext w w':=by
 obtain ⟨p1,p2⟩:=ratOf_parts h
 have hb:=bodyB_le s
 have hn:=numT_le s
 have hd:=denT_le s
 have HP:Hid (∀ W,Calls Tryz.prog 123 #[.string s,.string ⟨#[45]⟩] W fun e w' => e=.returned (.tuple #[.string (bodyB s),.bool (negB s)]) ∧ w'=W):=fun W => Tryz.strings_CutPrefix s ⟨#[45]⟩ W
 have HC:Hid (∀ W,Calls Tryz.prog 124 #[.string (bodyB s),.string ⟨#[47]⟩] W fun e w' => e=.returned (.tuple #[.string (numT s),.string (denT s),.bool (hasD s)]) ∧ Ext W w'):=fun W => cut1_any (bodyB s) 47 W (by omega)
 have HRN:=Lib.hid (fun W => read_any (numT s) W (by have:=h.n2; omega) (natB_iff.1 h.n1).1 (by have:=numB_dig2 h.n1 h.n2; unfold numB at this; omega))
 have HRD:=Lib.hid (fun (hh:hasD s=true) W => read_any (denT s) W (by have:=h.d2 hh; omega) (natB_iff.1 (h.d1 hh)).1 (by have:=numB_dig2 (h.d1 hh) (h.d2 hh); unfold numB at this; omega))
 have hdn:denN s=if hasD s=true then numB (denT s) else 1:=rfl
 have hnn:decF 0 (numT s).data.toList=numB (numT s):=rfl
 have hdd:decF 0 (denT s).data.toList=numB (denT s):=rfl
 simp only [hnn] at HRN
 simp only [hdd] at HRD
 generalize ratOf s=Q at *
 generalize bodyB s=B at *
 generalize negB s=neg at *
 generalize numB (numT s)=nn at *
 generalize numB (denT s)=dd at *
 generalize denN s=dn at *
 generalize numT s=N at *
 generalize denT s=D at *
 have HM:=Lib.hid (fun (x:Value) W (hx:NatV W x nn) => by
  have:=made_any neg x nn W hx
  rw [← p1] at this
  exact this)
 have HP2:=Lib.hid p2
 cases hok:hasD s
 · rw [hok] at HC hdn
   have hdn1:dn=1:=by rw [hdn]; simp
   have HDN:=Lib.hid hdn1
   clear h hb hn hd p1 p2 hnn hdd HRD hok hdn hdn1
   go_enter Tryz.func75,Tryz.ntmps75
   go_wp2_with fail
   refine (HP.out _).mono ?_
   rintro e w1 ⟨rfl,rfl⟩
   go_wp2_with fail
   refine (HC.out _).mono ?_
   rintro e w2 ⟨rfl,X2⟩
   go_wp2_with fail
   refine (HRN.out _).mono ?_
   rintro e w3 ⟨u3,rfl,h3,X3⟩
   go_wp2_with fail
   refine (HM.out _ _ h3).mono ?_
   rintro e w5 ⟨u5,rfl,h5,X5⟩
   obtain ⟨q5,ao5,l5,c5,rfl,_,_,_⟩:=h5.opn
   have XX:=(X2.trans X3).trans X5
   have XL:=(Ext.refl w5).alloc (.cells #[.int .u32 1] 167)
   have XO:=XL.alloc (.cells #[.bool q5,.slice ao5 l5 c5,.slice (some ⟨w5.heap.size,0,none⟩) 1 1] 89)
   have HQV:Hid (QV ((w5.alloc (.cells #[.int .u32 1] 167)).alloc (.cells #[.bool q5,.slice ao5 l5 c5,.slice (some ⟨w5.heap.size,0,none⟩) 1 1] 89)) (.agg #[.bool q5,.slice ao5 l5 c5,.slice (some ⟨w5.heap.size,0,none⟩) 1 1]) Q) :=
    ⟨q5,ao5,l5,c5,_,_,_,rfl,h5.ext XO,by rw [HP2.out,HDN.out]; exact one_len,by rw [HP2.out,HDN.out]; exact (natV_one w5 _ _ rfl).ext ((Ext.refl _).alloc _)⟩
   have R:=res3 (w:=w) (g:=w.heap.size) rfl (Ext.refl w) (XX.trans XO)
   have f0:=R.f0
   have c0:=R.c0
   have f1:=R.f1
   have c1:=R.c1
   have f2:=R.f2
   have e2:=R.c2
   have R:=Lib.hid R
   clear h5 h3
   go_wp2_with fail
   refine bodyPost_ret (v:=.agg #[.bool q5,.slice ao5 l5 c5,.slice (some ⟨w5.heap.size,0,none⟩) 1 1]) (by simp [results,Tryz.results75,go_sem,R.out.d0,R.out.d1,R.out.d2]) rfl ?_
   exact ⟨_,rfl,R.out.q _ _ _ HQV.out,R.out.ext _ _ _⟩
 · rw [hok] at HC hdn
   have HRD:=Lib.hid (HRD.out hok)
   have hdn1:dn=dd:=by rw [hdn]; simp
   have HDN:=Lib.hid hdn1
   clear h hb hn hd p1 p2 hnn hdd hok hdn hdn1
   go_enter Tryz.func75,Tryz.ntmps75
   go_wp2_with fail
   refine (HP.out _).mono ?_
   rintro e w1 ⟨rfl,rfl⟩
   go_wp2_with fail
   refine (HC.out _).mono ?_
   rintro e w2 ⟨rfl,X2⟩
   go_wp2_with fail
   refine (HRN.out _).mono ?_
   rintro e w3 ⟨u3,rfl,h3,X3⟩
   go_wp2_with fail
   refine (HM.out _ _ h3).mono ?_
   rintro e w5 ⟨u5,rfl,h5,X5⟩
   obtain ⟨q5,ao5,l5,c5,rfl,_,_,_⟩:=h5.opn
   have XX:=(X2.trans X3).trans X5
   have XL:=(Ext.refl w5).alloc (.cells #[.int .u32 1] 167)
   have XO:=XL.alloc (.cells #[.bool q5,.slice ao5 l5 c5,.slice (some ⟨w5.heap.size,0,none⟩) 1 1] 89)
   have HI5:=Lib.hid h5
   clear h5 h3
   go_wp2_with fail
   refine (HRD.out _).mono ?_
   rintro e w6 ⟨u6,rfl,h6,X6⟩
   obtain ⟨ao6,l6,c6,rfl,HL6,HN6⟩:=h6.opn
   obtain ⟨O,hO⟩:∃ O,w5.heap.size + 1=O:=⟨_,rfl⟩
   have hO5:w5.heap.size ≤ O:=by omega
   have hOw:(w5.alloc (.cells #[.int .u32 1] 167)).heap.size=O:=by rw [← hO]; simp
   have hown:=own_ext (World.ownsRow_lit (base:=(w5.alloc (.cells #[.int .u32 1] 167)).heap.size) (e:=89) (size:=1) (w5.alloc (.cells #[.int .u32 1] 167)) #[.bool q5,.slice ao5 l5 c5,.slice (some ⟨w5.heap.size,0,none⟩) 1 1] 3 (Nat.le_refl _) (by unfold maxLen; omega) (by simp)) X6
   rw [hOw] at hown
   have g2:=hown.frozenAt 2
   have d2:=own_cell hown (j:=2) (x:=.slice (some ⟨w5.heap.size,0,none⟩) 1 1) rfl
   have s2:=hown.stored 2 (.slice ao6 l6 c6)
   have b0:=own_cell s2.1 (j:=0) (x:=.bool q5) rfl
   have b1:=own_cell s2.1 (j:=1) (x:=.slice ao5 l5 c5) rfl
   have b2:=own_cell s2.1 (j:=2) (x:=.slice ao6 l6 c6) rfl
   have hblk:w6.heap[O]?=some (.cells #[.bool q5,.slice ao5 l5 c5,.slice (some ⟨w5.heap.size,0,none⟩) 1 1] 89):=by
    rw [X6.block _ (by show O < (Array.push _ _).size; rw [Array.size_push,hOw]; omega),← hOw]; exact Array.getElem?_push_size
   have ha:=nat_away HN6.out hblk (by
    intro i d
    match i with
    | 0 => simp [encD]
    | 1 => simp [encD]
    | 2 => simp [encD]
    | i + 3 => simp)
   have X56:Ext w5 (w6.setCell ⟨O,2,none⟩ (.slice ao6 l6 c6)):=(XO.trans X6).setCell (p:=⟨O,2,none⟩) hO5 _
   have HQV:Hid (QV (w6.setCell ⟨O,2,none⟩ (.slice ao6 l6 c6)) (.agg #[.bool q5,.slice ao5 l5 c5,.slice ao6 l6 c6]) Q) :=
    ⟨q5,ao5,l5,c5,ao6,l6,c6,rfl,HI5.out.ext X56,by rw [HP2.out,HDN.out]; exact HL6.out,by rw [HP2.out,HDN.out]; exact HN6.out.kept s2.2 ha⟩
   have R:=res3 (w:=w) (g:=w.heap.size) rfl (Ext.refl w) (XX.trans X56)
   have f0:=R.f0
   have c0:=R.c0
   have f1:=R.f1
   have c1:=R.c1
   have f2:=R.f2
   have e2:=R.c2
   have R:=Lib.hid R
   clear h6 hown s2 ha hblk hOw
   rw [hO]
   go_wp2_with fail
   refine bodyPost_ret (v:=.agg #[.bool q5,.slice ao5 l5 c5,.slice ao6 l6 c6]) (by simp [results,Tryz.results75,go_sem,R.out.d0,R.out.d1,R.out.d2]) rfl ?_
   exact ⟨_,rfl,R.out.q _ _ _ HQV.out,R.out.ext _ _ _⟩
set_option maxHeartbeats 1600000 in
set_option maxRecDepth 100000 in
theorem checkAll_any (v:Value) (l:List ByteArray) (w:World) (hv:Strs w v l) (hs:∀ s ∈ l,s.size ≤ 9223372036854775806) (Q:Int) (hQ:firstF (l.map ratErr)=Q) :
 Calls Tryz.prog 178 #[v] w fun e w' => e=.returned (.int .i64 Q) ∧ Ext w w':=by
 obtain ⟨wo,rfl⟩:∃ wo:World,wo=w:=⟨_,rfl⟩
 obtain ⟨ao,c,rfl,hlen,hc⟩:=hv.open
 have HC:=Lib.hid hc
 have HS:=Lib.hid hs
 have HQ:=Lib.hid hQ
 clear hc hs hv hQ
 go_enter Tryz.func178,Tryz.ntmps178
 go_wp2_with fail
 go_loopw [8] (fun iv wr => ∃ (i:Nat),i ≤ l.length ∧ iv=.int .i64 i ∧ Ext wo wr ∧ Hid (firstF ((l.drop i).map ratErr)=Q)) (fun iv _ => l.length - (intOf iv).toNat)
 case atStart => exact ⟨0,Nat.zero_le _,rfl,Ext.refl _,by show _=_; rw [List.drop_zero]; exact HQ.out⟩
 case round =>
  obtain ⟨i,hi,rfl,X,HI⟩:=hrel
  by_cases hlt:i < l.length
  · obtain ⟨s,d1,d2,d3⟩:=get_lt hlt
    obtain ⟨b,off,rfl,hc0⟩:=(HC.out.ext X).at d1
    have hcell:wr.cell? ⟨b,off + i,none⟩=some (.string s):=hc0
    have hki:(i:Int) < (l.length:Int):=by omega
    have hi2:=HI.out
    rw [d2.out,List.map_cons,firstF] at hi2
    have HR:=Lib.hid (ratCheck_any s wr (HS.out s (List.mem_of_getElem? d1.out)))
    obtain ⟨q,hq⟩:∃ q,ratErr s=q:=⟨_,rfl⟩
    rw [hq] at HR hi2
    by_cases hz:q=0
    · subst hz
      rw [if_neg (by simp)] at hi2
      have HI2:=Lib.hid hi2
      clear hc0 hi2 hq hlt
      go_wp2_with fail
      refine HR.out.mono ?_
      rintro e w2 ⟨rfl,X2⟩
      go_wp2_with fail
      go_roundw
      case rel => exact ⟨i + 1,by omega,by go_num,X.trans X2,HI2.out⟩
      case measure => simp [intOf]; omega
    · rw [if_pos hz] at hi2
      have hb:(q != 0)=true:=by simp [hz]
      have HI2:=Lib.hid hi2
      clear hc0 hi2 hq hlt hz
      go_wp2_with fail
      refine HR.out.mono ?_
      rintro e w2 ⟨rfl,X2⟩
      go_wp2_with fail
      go_ret
      exact ⟨by rw [← HI2.out]; rfl,X.trans X2⟩
  · have hil:l.length=i:=by omega
    have hi2:=HI.out
    rw [← hil,List.drop_length] at hi2
    have HI2:=Lib.hid hi2
    clear hi2 hlt
    go_wp2_with fail
    go_ret
    exact ⟨by rw [← HI2.out]; rfl,X⟩
def cmpQ (a b:Rat):Int:=(a.num * b.den - b.num * a.den).sign
end Go.Proofs.YtcggohkbmhdohaaGreatDoor
