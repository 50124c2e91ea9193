/- texts merged: TrQ TrR TrS TrT TrU TrV TrW TrX -/
import Derived.Test.YtcggohkbmhdohaaGreatDoorTrKO
import Derived.BigQuiet
import Derived.Deep.RegionHeld3
import Derived.Test.YtcggohkbmhdohaaGreatDoorTwS
import Derived.OwnWalk
import Derived.Test.YtcggohkbmhdohaaGreatDoorMtRg
namespace Go.Proofs.YtcggohkbmhdohaaGreatDoor
open Go.RowKit
set_option linter.unusedVariables false
theorem widthT_hit {T:List Nd} {p q:Int} {i:Nat} {x:Nd} (hx:T[i]?=some x) (hm:isMove x p q=true) (hn:∀ y ∈ T.take i,isMove y p q=false):widthT T p q=x.next.length:=by
 unfold widthT
 have h1:T.find? (fun x => isMove x p q)=some x:=by
  rw [List.find?_eq_some_iff_append]
  refine ⟨hm,T.take i,T.drop (i + 1),?_,fun y hy => by rw [hn y hy]; rfl⟩
  obtain ⟨h2,h3⟩:=List.getElem?_eq_some_iff.1 hx
  rw [← h3,← List.drop_eq_getElem_cons h2,List.take_append_drop]
 rw [h1]
theorem widthT_none {T:List Nd} {p q:Int} (hn:∀ y ∈ T,isMove y p q=false):widthT T p q=0:=by
 unfold widthT
 rw [List.find?_eq_none.2 fun y hy => by rw [hn y hy]; simp]
theorem isMove_no {x:Nd} {p q:Int} (h:¬ (x.kind=2 ∧ x.player=p ∧ x.info=q)):isMove x p q=false:=by
 rw [Bool.eq_false_iff]; exact fun e => h (isMove_iff.1 e)
set_option maxHeartbeats 3200000 in
set_option maxRecDepth 100000 in
theorem rWidth_any (v:Value) (T:List Nd) (p q:Int) (w:World) (hv:TreeIn w v T) :
 Calls Tryz.prog 55 #[v,.int .i64 p,.int .i64 q] w fun e w' => e=.returned (.int .i64 (widthT T p q:Int)) ∧ Ext w w':=by
 obtain ⟨wo,rfl⟩:∃ wo:World,wo=w:=⟨_,rfl⟩
 obtain ⟨ao,c,rfl,hlen,hn⟩:=hv.open
 have HN:=Lib.hid hn
 obtain ⟨Q,hQ⟩:∃ Q,widthT T p q=Q:=⟨_,rfl⟩
 have HQ:=Lib.hid hQ
 rw [hQ]
 clear hn hv hQ
 go_enter Tryz.func55,Tryz.ntmps55
 go_wp2_with fail
 go_loopw [11] (fun iv wr => ∃ (j:Nat),j ≤ T.length ∧ iv=.int .i64 j ∧ Hid (∀ y ∈ T.take j,isMove y p q=false) ∧ Ext wo wr) (fun iv _ => T.length - (intOf iv).toNat)
 case atStart => exact ⟨0,Nat.zero_le _,rfl,(fun y hy => by simp at hy),Ext.refl _⟩
 case round =>
  obtain ⟨j,hj,rfl,HF,X⟩:=hrel
  by_cases hlt:j < T.length
  · obtain ⟨x,d1,d2,d3⟩:=get_lt hlt
    obtain ⟨b,off,no,nc,oo,oc,rfl,c0,c1,c2,c3,c4,c5,_,_,_⟩:=HN.out.at d1
    have c0:=X.cell c0
    have c1:=X.cell c1
    have c2:=X.cell c2
    have c3:=X.cell c3
    have c4:=X.cell c4
    have c5:=X.cell c5
    have hii:(j:Int) < (T.length:Int):=by omega
    have HF1:=Lib.hid (fun (hm:isMove x p q=false) => (fun y hy => by
     rw [d3.out] at hy
     rcases List.mem_append.1 hy with h | h
     · exact HF.out y h
     · rw [List.mem_singleton.1 h]; exact hm:∀ y ∈ T.take (j + 1),isMove y p q=false))
    have HMV:=Lib.hid (fun (hm:isMove x p q=true) => HQ.out.symm.trans (widthT_hit d1.out hm HF.out))
    have hmi:=@isMove_iff x p q
    have hmn:=@isMove_no x p q
    obtain ⟨kx,hkx⟩:∃ kx,x.kind=kx:=⟨_,rfl⟩
    obtain ⟨px,hpx⟩:∃ px,x.player=px:=⟨_,rfl⟩
    obtain ⟨qx,hqx⟩:∃ qx,x.info=qx:=⟨_,rfl⟩
    obtain ⟨nx,hnx⟩:∃ nx,x.next.length=nx:=⟨_,rfl⟩
    obtain ⟨ox,hox⟩:∃ ox,x.odds.length=ox:=⟨_,rfl⟩
    obtain ⟨yx,hyx⟩:∃ yx,x.pay=yx:=⟨_,rfl⟩
    rw [hkx] at c0 hmi hmn
    rw [hpx] at c1 hmi hmn
    rw [hqx] at c2 hmi hmn
    rw [hnx] at c3 HMV
    rw [hox] at c4
    rw [hyx] at c5
    have HMI:=Lib.hid hmi
    obtain ⟨T7,hT7⟩:∃ T7,wr.heap.size=T7:=⟨_,rfl⟩
    obtain ⟨W1,hW1⟩:∃ W1,wr.alloc (.cells #[.int .i64 kx,.int .i64 px,.int .i64 qx,.slice no nx nc,.slice oo ox oc,.string yx] 79)=W1:=⟨_,rfl⟩
    have X1:Ext wr W1:=by rw [← hW1]; exact (Ext.refl wr).alloc _
    have y0:W1.cell? ⟨T7,0,none⟩=some (.int .i64 kx):=by rw [← hW1,← hT7]; simp [go_sem]
    have y1:W1.cell? ⟨T7,1,none⟩=some (.int .i64 px):=by rw [← hW1,← hT7]; simp [go_sem]
    have y2:W1.cell? ⟨T7,2,none⟩=some (.int .i64 qx):=by rw [← hW1,← hT7]; simp [go_sem]
    have y3:W1.cell? ⟨T7,3,none⟩=some (.slice no nx nc):=by rw [← hW1,← hT7]; simp [go_sem]
    have HX1:=Lib.hid (X.trans X1)
    have HMN:=Lib.hid hmn
    clear hkx hpx hqx hnx hox hyx hmi hmn X1
    by_cases a1:kx=2
    · subst a1
      by_cases a2:px=p
      · subst a2
        by_cases a3:qx=q
        · subst a3
          have hq:=HMV.out (HMI.out.2 ⟨rfl,rfl,rfl⟩)
          subst hq
          clear d1 d2 d3 hlt HF HF1 HMV HMI HQ HMN
          go_wp2_with fail
          go_ret
          exact ⟨rfl,HX1.out⟩
        · have HNM:=Lib.hid (HMN.out (fun h => a3 h.2.2))
          have bf1:(qx == q)=false:=by rw [beq_eq_false_iff_ne]; exact a3
          clear a3 HMN
          have HF2:=Lib.hid (HF1.out HNM.out)
          clear d1 d2 d3 hlt HF HF1 HMV HMI
          go_wp2_with fail
          go_roundw
          case rel => exact ⟨j + 1,by omega,by go_num,HF2,HX1.out⟩
          case measure => simp [intOf]; omega
      · have HNM:=Lib.hid (HMN.out (fun h => a2 h.2.1))
        have bf1:(px == p)=false:=by rw [beq_eq_false_iff_ne]; exact a2
        clear a2 HMN
        have HF2:=Lib.hid (HF1.out HNM.out)
        clear d1 d2 d3 hlt HF HF1 HMV HMI
        go_wp2_with fail
        go_roundw
        case rel => exact ⟨j + 1,by omega,by go_num,HF2,HX1.out⟩
        case measure => simp [intOf]; omega
    · have HNM:=Lib.hid (HMN.out (fun h => a1 h.1))
      have bf1:(kx == 2)=false:=by rw [beq_eq_false_iff_ne]; exact a1
      clear a1 HMN
      have HF2:=Lib.hid (HF1.out HNM.out)
      clear d1 d2 d3 hlt HF HF1 HMV HMI
      go_wp2_with fail
      go_roundw
      case rel => exact ⟨j + 1,by omega,by go_num,HF2,HX1.out⟩
      case measure => simp [intOf]; omega
  · have hq:Q=0:=by
     rw [← HQ.out]
     exact widthT_none fun y hy => HF.out y (by rw [List.take_of_length_le (by omega)]; exact hy)
    subst hq
    have hge:¬ (j:Int) < (T.length:Int):=by omega
    clear hlt
    go_wp2_with fail
    go_ret
    exact ⟨rfl,X⟩
theorem infosT_take (T:List Nd) (p:Int) {i:Nat} (hi:i < 10):(((List.range 10).map Int.ofNat).take (i + 1)).filter (fun q => decide (0 < widthT T p q))=(((List.range 10).map Int.ofNat).take i).filter (fun q => decide (0 < widthT T p q)) ++ if 0 < widthT T p (i:Int) then [(i:Int)] else []:=by
 have h1:((List.range 10).map Int.ofNat)[i]?=some (i:Int):=by rw [List.getElem?_map,List.getElem?_range hi]; rfl
 obtain ⟨h2,h3⟩:=List.getElem?_eq_some_iff.1 h1
 rw [List.take_succ_eq_append_getElem h2,h3,List.filter_append]
 congr 1
 by_cases h:0 < widthT T p (i:Int)
 · rw [if_pos h,List.filter_cons_of_pos (by exact decide_eq_true h),List.filter_nil]
 · rw [if_neg h,List.filter_cons_of_neg (by simpa using h),List.filter_nil]
set_option maxHeartbeats 3200000 in
set_option maxRecDepth 100000 in
theorem rInfos_any (v:Value) (T:List Nd) (p:Int) (w:World) (hv:TreeIn w v T) :
 Calls Tryz.prog 54 #[v,.int .i64 p] w fun e w' => ∃ u,e=.returned u ∧ Ints w' u (infosT T p) ∧ Ext w w':=by
 obtain ⟨wo,rfl⟩:∃ wo:World,wo=w:=⟨_,rfl⟩
 have HW:=Lib.hid (fun (q:Int) W (hX:Ext wo W) => rWidth_any v T p q W (hv.ext hX))
 obtain ⟨ao,c,rfl,hlen,hn⟩:=hv.open
 clear hn hv
 go_enter Tryz.func54,Tryz.ntmps54
 go_wp2_with fail
 go_loopw [5,7] (fun ov iv wr => ∃ (i:Nat) (xs:List Int),i ≤ 10 ∧ iv=.int .i64 i ∧ Hid (xs=(((List.range 10).map Int.ofNat).take i).filter (fun q => decide (0 < widthT T p q))) ∧ Hid (wr.ownsRow wo.heap.size 3 1 ov xs.length (xs.map (Value.int .i64))) ∧ Hid (xs.length ≤ i) ∧ Ext wo wr) (fun _ iv _ => 10 - (intOf iv).toNat)
 case atStart => exact ⟨0,[],Nat.zero_le _,rfl,rfl,World.ownsRow_nil _ _ _ _,Nat.le_refl _,Ext.refl _⟩
 case round =>
  obtain ⟨i,xs,hi,rfl,HE,HO,HL,X⟩:=hrel
  by_cases hlt:i < 10
  · have hii:(i:Int) < 10:=by omega
    have HC:=Lib.hid (HW.out (i:Int) wr X)
    have HT:=infosT_take T p hlt
    rw [← HE.out] at HT
    obtain ⟨m,hm⟩:∃ m,widthT T p (i:Int)=m:=⟨_,rfl⟩
    rw [hm] at HC HT
    have hll:=HL.out
    by_cases h0:0 < m
    · rw [if_pos h0] at HT
      have HT2:=Lib.hid HT.symm
      have hb:(0:Int) < (m:Int):=by omega
      have hl1:xs.length + 1 ≤ 17592186044416:=by omega
      have hl2:(xs.length + 1) * 8 ≤ 140737488355328:=by omega
      have HL2:Hid ((xs ++ [(i:Int)]).length ≤ i + 1):=by show _ ≤ _; rw [List.length_append,List.length_singleton]; omega
      obtain ⟨K,hK⟩:∃ K,xs.length=K:=⟨_,rfl⟩
      have HK:=Lib.hid hK
      rw [hK] at HO hl1 hl2
      clear HT hm hlt h0 hll hK
      go_wp2_with fail
      refine HC.out.mono ?_
      rintro e w2 ⟨rfl,X2⟩
      have HO2:=Lib.hid (own_ext HO.out X2)
      have hbk:wo.heap.size ≤ w2.heap.size:=(X.trans X2).size
      go_wp2_with (first | (at_builtin; go_must (refine wp_app1 rfl rfl ei_ints HO2.out rfl rfl (by simp) rfl hl1 hl2 (by simpa using hbk) ?_); intro v' w' hown hgrew))
      go_roundw
      case rel =>
       refine ⟨i + 1,xs ++ [(i:Int)],by omega,by go_num,HT2.out,?_,HL2,hgrew.extNew (X.trans X2) HO2.out (Nat.le_refl _)⟩
       show World.ownsRow _ _ _ _ _ _ _
       rw [List.length_append,List.length_singleton,HK.out,List.map_append]
       exact hown
      case measure => simp [intOf]; omega
    · rw [if_neg h0,List.append_nil] at HT
      have HT2:=Lib.hid HT.symm
      have hb:¬ (0:Int) < (m:Int):=by omega
      have HL2:Hid (xs.length ≤ i + 1):=by show _ ≤ _; omega
      clear HT hm hlt h0 hll
      go_wp2_with fail
      refine HC.out.mono ?_
      rintro e w2 ⟨rfl,X2⟩
      go_wp2_with fail
      go_roundw
      case rel => exact ⟨i + 1,xs,by omega,by go_num,HT2,own_ext HO.out X2,HL2,X.trans X2⟩
      case measure => simp [intOf]; omega
  · have hi10:i=10:=by omega
    have HI:Hid (xs=infosT T p):=by
     show _=_
     rw [HE.out,hi10]
     unfold infosT
     rw [List.take_of_length_le (by simp)]
    have hll:=HL.out
    have HR:=Lib.hid (own_rowOf HO.out (by omega))
    have hge:¬ (i:Int) < 10:=by omega
    clear hlt hi10 hll
    go_wp2_with fail
    go_ret
    exact ⟨_,rfl,by rw [← HI.out]; exact HR.out,X⟩
def ndV (x:Nd) (no:Option Addr) (nc:Nat) (oo:Option Addr) (oc:Nat):Value:=.agg #[.int .i64 x.kind,.int .i64 x.player,.int .i64 x.info,.slice no x.next.length nc,.slice oo x.odds.length oc,.string x.pay]
set_option maxHeartbeats 1600000 in
set_option maxRecDepth 100000 in
theorem indexFunc_nodes (v:Value) (T:List Nd) (ps:List Bool) (g:Nat) (caps:Array Value) (w:World) (hv:TreeIn w v T) (hl:ps.length=T.length)
 (eg:∀ args w,(callFunc g args).run Tryz.prog w=.ok (.enter g args) w)
 (hp:∀ (i:Nat) (x:Nd) (q:Bool) (W:World) no nc oo oc,T[i]?=some x → ps[i]?=some q → Ext w W → Calls Tryz.prog g (#[ndV x no nc oo oc] ++ caps) W fun e W' => e=.returned (.bool q) ∧ Ext W W') :
 Calls Tryz.prog 109 #[v,.func (.func g) #[] caps] w fun e w' => e=.returned (.int .i64 (idxF id ps 0)) ∧ Ext w w':=by
 obtain ⟨ao,c,rfl,hlen,hn⟩:=hv.open
 have HP:=Lib.hid hp; have HL:=Lib.hid hl; have HN:=Lib.hid hn
 clear hp hl hn hv
 go_enter Tryz.func109,Tryz.ntmps109
 go_wp2_with fail
 go_loopw [8] (fun i wr => ∃ k:Nat,k ≤ T.length ∧ i=.int .i64 k ∧ Ext w wr ∧ Hid (idxF id (ps.drop k) k=idxF id ps 0)) (fun i _ => T.length - (intOf i).toNat)
 case atStart => exact ⟨0,Nat.zero_le _,rfl,Ext.refl _,rfl⟩
 case round =>
  obtain ⟨k,hk,rfl,HX,HI⟩:=hrel
  by_cases hlt:k < T.length
  · obtain ⟨x,h1,_,_⟩:=get_lt hlt
    obtain ⟨q,hq1,hq2,_⟩:=get_lt (xs:=ps) (k:=k) (by rw [HL.out]; exact hlt)
    obtain ⟨b,off,no,nc,oo,oc,rfl,c0,c1,c2,c3,c4,c5,_,_,_⟩:=(HN.out.ext HX).at h1
    have hki:(k:Int) < (T.length:Int):=by omega
    have hcall:=HP.out k x q wr no nc oo oc h1.out hq1.out HX
    unfold ndV at hcall
    have HH:=Lib.hid hcall; clear hcall
    cases q
    all_goals
     go_wp2_with fail
     refine HH.out.mono ?_
     rintro e w' ⟨rfl,HB⟩
     go_wp2_with fail
    · go_roundw
      case rel => exact ⟨k + 1,by omega,by go_num,HX.trans HB,by rw [← HI.out,hq2.out]; simp [Hid,idxF]⟩
      case measure => simp [intOf]; omega
    · go_ret
      exact ⟨ret_int (by rw [← HI.out,hq2.out]; simp [idxF]),HX.trans HB⟩
  · obtain ⟨h1,_⟩:=get_ge (xs:=ps) (k:=k) (by rw [HL.out]; exact hlt)
    have hge:¬ (k:Int) < (T.length:Int):=by omega
    go_wp2_with fail
    go_ret
    exact ⟨ret_int (by rw [← HI.out,h1.out]; rfl),HX⟩
set_option maxHeartbeats 1600000 in
set_option maxRecDepth 100000 in
theorem setsClo_any (x:Nd) (p q:Int) (g h:Nat) (no:Option Addr) (nc:Nat) (oo:Option Addr) (oc:Nat) (w:World) (hg:w.cell? ⟨g,0,none⟩=some (.int .i64 p)) (hh:w.cell? ⟨h,0,none⟩=some (.int .i64 q)) :
 Calls Tryz.prog 110 #[ndV x no nc oo oc,.pointer (some ⟨g,0,none⟩),.pointer (some ⟨h,0,none⟩)] w fun e w' => e=.returned (.bool (isMove x p q)) ∧ Ext w w':=by
 unfold ndV
 have hmi:=@isMove_iff x p q
 have hmn:=@isMove_no x p q
 obtain ⟨R,hR⟩:∃ R,isMove x p q=R:=⟨_,rfl⟩
 rw [hR] at hmi hmn ⊢
 obtain ⟨kx,hkx⟩:∃ kx,x.kind=kx:=⟨_,rfl⟩
 obtain ⟨px,hpx⟩:∃ px,x.player=px:=⟨_,rfl⟩
 obtain ⟨qx,hqx⟩:∃ qx,x.info=qx:=⟨_,rfl⟩
 obtain ⟨nx,hnx⟩:∃ nx,x.next.length=nx:=⟨_,rfl⟩
 obtain ⟨ox,hox⟩:∃ ox,x.odds.length=ox:=⟨_,rfl⟩
 obtain ⟨yx,hyx⟩:∃ yx,x.pay=yx:=⟨_,rfl⟩
 rw [hkx,hpx,hqx] at hmi hmn
 rw [hkx,hpx,hqx,hnx,hox,hyx]
 obtain ⟨T7,hT7⟩:∃ T7,w.heap.size=T7:=⟨_,rfl⟩
 obtain ⟨W1,hW1⟩:∃ W1,w.alloc (.cells #[.int .i64 kx,.int .i64 px,.int .i64 qx,.slice no nx nc,.slice oo ox oc,.string yx] 79)=W1:=⟨_,rfl⟩
 have X1:Ext w W1:=by rw [← hW1]; exact (Ext.refl w).alloc _
 have y0:W1.cell? ⟨T7,0,none⟩=some (.int .i64 kx):=by rw [← hW1,← hT7]; simp [go_sem]
 have y1:W1.cell? ⟨T7,1,none⟩=some (.int .i64 px):=by rw [← hW1,← hT7]; simp [go_sem]
 have y2:W1.cell? ⟨T7,2,none⟩=some (.int .i64 qx):=by rw [← hW1,← hT7]; simp [go_sem]
 have z1:=X1.cell hg
 have z2:=X1.cell hh
 have HX1:=Lib.hid X1
 clear hkx hpx hqx hnx hox hyx hR X1
 by_cases a1:kx=2
 · subst a1
   by_cases a2:px=p
   · subst a2
     by_cases a3:qx=q
     · subst a3
       have hr:R=true:=hmi.2 ⟨rfl,rfl,rfl⟩
       subst hr
       clear hmi hmn
       go_enter Tryz.func110,Tryz.ntmps110
       go_wp2_with fail
       go_ret
       exact ⟨by first | rfl | simp,HX1.out⟩
     · have hr:R=false:=hmn (fun h => a3 h.2.2)
       subst hr
       have bf1:(qx == q)=false:=by rw [beq_eq_false_iff_ne]; exact a3
       clear hmi hmn a3
       go_enter Tryz.func110,Tryz.ntmps110
       go_wp2_with fail
       go_ret
       exact ⟨by first | rfl | simp [bf1],HX1.out⟩
   · have hr:R=false:=hmn (fun h => a2 h.2.1)
     subst hr
     have bf1:(px == p)=false:=by rw [beq_eq_false_iff_ne]; exact a2
     clear hmi hmn a2
     go_enter Tryz.func110,Tryz.ntmps110
     go_wp2_with fail
     go_ret
     exact ⟨by first | rfl | simp [bf1],HX1.out⟩
 · have hr:R=false:=hmn (fun h => a1 h.1)
   subst hr
   have bf1:(kx == 2)=false:=by rw [beq_eq_false_iff_ne]; exact a1
   clear hmi hmn a1
   go_enter Tryz.func110,Tryz.ntmps110
   go_wp2_with fail
   go_ret
   exact ⟨by first | rfl | simp [bf1],HX1.out⟩
structure LI (B:Nat) (e1 e2:TypeId) (w:World) (lv rv:Value) (ml mr:Nat) (xs ys:List Value):Prop where
 lo:w.ownsRow B e1 1 lv ml xs
 ro:w.ownsRow B e2 1 rv mr ys
 dis:∀ k,lv.ownBlock=some k → rv.ownBlock ≠ some k
theorem LI.start (B:Nat) (e1 e2:TypeId) (w:World):LI B e1 e2 w (.slice none 0 0) (.slice none 0 0) 0 0 [] [] :=
 ⟨World.ownsRow_nil _ _ _ _,World.ownsRow_nil _ _ _ _,fun k h => by simp [Value.ownBlock] at h⟩
theorem LI.ext {B:Nat} {e1 e2:TypeId} {w w':World} {lv rv:Value} {ml mr:Nat} {xs ys:List Value} (h:LI B e1 e2 w lv rv ml mr xs ys) (he:Ext w w'):LI B e1 e2 w' lv rv ml mr xs ys :=
 ⟨own_ext h.lo he,own_ext h.ro he,h.dis⟩
theorem LI.stepL {B:Nat} {e1 e2:TypeId} {w w':World} {lv rv lv' u:Value} {ml mr:Nat} {xs ys:List Value} (h:LI B e1 e2 w lv rv ml mr xs ys) (ho:w'.ownsRow B e1 1 lv' (ml + 1) (xs ++ [u])) (hg:Grew w lv w' lv'):LI B e1 e2 w' lv' rv (ml + 1) mr (xs ++ [u]) ys:=by
 refine ⟨ho,own_kept h.ro hg.by' (apart_of h.dis),fun k hk => ?_⟩
 rcases hg.blk with e | e
 · exact h.dis k (by rw [← e]; exact hk)
 · intro e2
   have:=(h.ro.lt k e2).2
   have:=e k hk
   omega
theorem LI.stepR {B:Nat} {e1 e2:TypeId} {w w':World} {lv rv rv' y:Value} {ml mr:Nat} {xs ys:List Value} (h:LI B e1 e2 w lv rv ml mr xs ys) (ho:w'.ownsRow B e2 1 rv' (mr + 1) (ys ++ [y])) (hg:Grew w rv w' rv'):LI B e1 e2 w' lv rv' ml (mr + 1) xs (ys ++ [y]):=by
 refine ⟨own_kept h.lo hg.by' (apart_of fun k a b => h.dis k b a),ho,fun k hk => ?_⟩
 rcases hg.blk with e | e
 · rw [e]; exact h.dis k hk
 · intro e2
   have:=(h.lo.lt k hk).2
   have:=e k e2
   omega
theorem idxF_find {α:Type} (f:α → Bool):∀ (l:List α) (k:Int),(idxF id (l.map f) k=-1 ∧ l.find? f=none) ∨ ∃ (j:Nat) (x:α),idxF id (l.map f) k=k + j ∧ l[j]?=some x ∧ l.find? f=some x
 | [],k => .inl ⟨rfl,rfl⟩
 | y :: t,k => by
   rw [List.map_cons,idxF,List.find?_cons]
   cases hy:f y with
   | true => exact .inr ⟨0,y,by simp,rfl,rfl⟩
   | false =>
     rcases idxF_find f t (k + 1) with ⟨h1,h2⟩ | ⟨j,x,h1,h2,h3⟩
     · exact .inl ⟨by simpa using h1,h2⟩
     · exact .inr ⟨j + 1,x,by simp only [id,Bool.false_eq_true,if_false]; rw [h1]; omega,by simpa using h2,h3⟩
def setsP (T:List Nd) (p:Int):List (Int × Int):=(((List.range 10).map Int.ofNat).filter fun q => T.any fun x => isMove x p q).map fun q => (q,(widthT T p q:Int))
theorem setsP_valid {T:List Nd} (hv:Valid T) (p:Int):(setsP T p).map (·.1)=infosT T p:=by
 unfold setsP infosT
 rw [List.map_map]
 rw [show ((fun x:Int × Int => x.1) ∘ fun q => (q,(widthT T p q:Int)))=id from rfl,List.map_id]
 refine List.filter_congr fun q _ => ?_
 rw [Bool.eq_iff_iff,List.any_eq_true,decide_eq_true_eq]
 constructor
 · rintro ⟨x,hx,hm⟩
   obtain ⟨i,hi⟩:=List.mem_iff_getElem?.1 hx
   cases hf:T.find? (fun x => isMove x p q) with
   | none => exact absurd hm (by simpa using List.find?_eq_none.1 hf x hx)
   | some y =>
     have hy:=List.find?_some hf
     have hym:=List.mem_of_find?_eq_some hf
     obtain ⟨j,hj⟩:=List.mem_iff_getElem?.1 hym
     have e:widthT T p q=y.next.length:=by unfold widthT; rw [hf]
     rw [e]
     obtain ⟨k2,_,_⟩:=isMove_iff.1 hy
     rcases hv.node j y hj with ⟨h0,_⟩ | ⟨h0,_⟩ | ⟨_,_,_,_,_,_,h0⟩
     · omega
     · omega
     · exact (nextE_zero h0).1
 · intro h
   cases hf:T.find? (fun x => isMove x p q) with
   | none =>
     unfold widthT at h
     rw [hf] at h
     exact absurd h (Nat.lt_irrefl _)
   | some y =>
     have hy:=List.find?_some hf
     exact ⟨y,List.mem_of_find?_eq_some hf,hy⟩
def strF (W:Int → Nat):List Int → List Ch → Int
 | q :: I,c :: S => if c.1 ≠ q ∨ c.2.length ≠ W q then 3 else if oddsE c.2 ≠ 0 then oddsE c.2 else strF W I S
 | _,_ => 0
def strategyE (T:List Nd) (p:Int) (S:List Ch):Int:=if (infosT T p).length ≠ S.length then 3 else strF (widthT T p) (infosT T p) S
set_option maxHeartbeats 3200000 in
set_option maxRecDepth 100000 in
theorem rStrategyError_any (v u:Value) (T:List Nd) (p:Int) (S:List Ch) (w:World) (hv:TreeIn w v T) (hu:StrIn w u S) (hz:StrSz S) :
 Calls Tryz.prog 15 #[v,.int .i64 p,u] w fun e w' => e=.returned (.int .i64 (strategyE T p S)) ∧ Ext w w':=by
 obtain ⟨wo,rfl⟩:∃ wo:World,wo=w:=⟨_,rfl⟩
 have HIN:=Lib.hid (rInfos_any v T p wo hv)
 have HW:=Lib.hid (fun (q:Int) W (hX:Ext wo W) => rWidth_any v T p q W (hv.ext hX))
 obtain ⟨ao,c,rfl,hlen,_⟩:=hv.open
 obtain ⟨so,sc,rfl,hsl,hs⟩:=hu.open
 have HS:=Lib.hid hs
 have HZ:=Lib.hid hz
 obtain ⟨Q,hQ⟩:∃ Q,strategyE T p S=Q:=⟨_,rfl⟩
 rw [hQ]
 unfold strategyE at hQ
 have HI10:(infosT T p).length ≤ 10:=by
  unfold infosT
  have:=List.length_filter_le (fun q => decide (0 < widthT T p q)) ((List.range 10).map Int.ofNat)
  simpa using this
 generalize infosT T p=I at *
 clear hv hu hs hz
 by_cases hl:I.length=S.length
 · rw [if_neg (by simpa using hl)] at hQ
   have HQ:=Lib.hid hQ
   have HLL:=Lib.hid hl
   clear hQ
   go_enter Tryz.func15,Tryz.ntmps15
   go_wp2_with fail
   refine HIN.out.mono ?_
   rintro e w1 ⟨iv0,rfl,hI,X1⟩
   obtain ⟨io,ic,rfl,_,hic⟩:=hI.open
   have HIC:=Lib.hid hic
   rw [hl]
   rw [hl] at HI10
   clear hI hic hl
   go_wp2_with fail
   go_loopw [21] (fun jv wr => ∃ (j:Nat),j ≤ S.length ∧ jv=.int .i64 j ∧ Hid (strF (widthT T p) (I.drop j) (S.drop j)=Q) ∧ Ext w1 wr) (fun jv _ => S.length - (intOf jv).toNat)
   case atStart => exact ⟨0,Nat.zero_le _,rfl,by show _=_; rw [List.drop_zero,List.drop_zero]; exact HQ.out,Ext.refl _⟩
   case round =>
    obtain ⟨j,hj,rfl,HE,X⟩:=hrel
    by_cases hlt:j < S.length
    · obtain ⟨ch,d1,d2,d3⟩:=get_lt hlt
      obtain ⟨q,e1,e2,e3⟩:=get_lt (xs:=I) (k:=j) (by rw [HLL.out]; exact hlt)
      have hE:=HE.out
      rw [d2.out,e2.out,strF] at hE
      obtain ⟨b,off,oo,oc,rfl,c0,c1,hod⟩:=(HS.out.ext (X1.trans X)).at d1
      obtain ⟨b2,off2,rfl,hq0⟩:=(HIC.out.ext X).at e1
      have hjj:(j:Int) < (S.length:Int):=by omega
      have HOE:=Lib.hid (fun W (hX:Ext wr W) => rOddsError_any _ ch.2 W (hod.ext hX) (HZ.out ch (List.mem_of_getElem? d1.out)))
      obtain ⟨ci,os⟩:=ch
      dsimp only at c0 c1 hod hE HOE
      obtain ⟨T7,hT7⟩:∃ T7,wr.heap.size=T7:=⟨_,rfl⟩
      obtain ⟨W1,hW1⟩:∃ W1,wr.alloc (.cells #[.int .i64 ci,.slice oo os.length oc] 73)=W1:=⟨_,rfl⟩
      have X2:Ext wr W1:=by rw [← hW1]; exact (Ext.refl wr).alloc _
      have y0:W1.cell? ⟨T7,0,none⟩=some (.int .i64 ci):=by rw [← hW1,← hT7]; simp [go_sem]
      have y1:W1.cell? ⟨T7,1,none⟩=some (.slice oo os.length oc):=by rw [← hW1,← hT7]; simp [go_sem]
      have z0:=X2.cell hq0
      have HX2:=Lib.hid (X.trans X2)
      have HX3:=Lib.hid X2
      have HC:=Lib.hid (fun W (hX:Ext W1 W) => HW.out q W ((X1.trans HX2.out).trans hX))
      obtain ⟨m,hm⟩:∃ m,widthT T p q=m:=⟨_,rfl⟩
      obtain ⟨n,hn⟩:∃ n,os.length=n:=⟨_,rfl⟩
      obtain ⟨O,hO⟩:∃ O,oddsE os=O:=⟨_,rfl⟩
      rw [hm] at HC hE
      rw [hn] at hE c1 y1 hW1 HOE
      rw [hO] at hE HOE
      clear d1 d2 d3 e1 e2 e3 hlt hod hm hn hO HE X X2 HW HS HIC
      by_cases a1:ci=q
      · subst a1
        have bf1:(ci != ci)=false:=by simp
        by_cases a2:n=m
        · subst a2
          rw [if_neg (by simp)] at hE
          have bf2:((n:Int) != (n:Int))=false:=by simp
          by_cases a3:O=0
          · subst a3
            rw [if_neg (by simp)] at hE
            have HE2:=Lib.hid hE
            clear hE
            go_wp2_with fail
            clear c0 c1 hq0 hW1 hT7
            go_region_held3 (fun W9 => W9.cell? ⟨T7,0,none⟩=some (.int .i64 ci) ∧ W9.cell? ⟨T7,1,none⟩=some (.slice oo n oc) ∧ W9.cell? ⟨b2,off2 + j,none⟩=some (.int .i64 ci))
             (first | exact ⟨XD.cell y0,XD.cell y1,XD.cell z0⟩ | exact ⟨y0,y1,z0⟩ | go_keep)
             (first | (go_at_call 55; refine (HC.out _ (by repeat' (first | with_reducible exact Ext.refl _ | with_reducible apply Ext.alloc | with_reducible apply Ext.drew | with_reducible apply Ext.drewN))).mono ?_; rintro e w5 ⟨rfl,X5⟩; have XD:Ext W1 w5:=Ext.trans (by repeat' (first | with_reducible exact Ext.refl _ | with_reducible apply Ext.alloc | with_reducible apply Ext.drew | with_reducible apply Ext.drewN)) X5))
            all_goals
             have y1:=XD.cell y1
             have HXD:=Lib.hid XD
             clear XD
             go_wp2_with fail
             refine (HOE.out _ (by first | exact HX3.out.trans HXD.out | exact (HX3.out.trans HXD.out).drew)).mono ?_
             rintro e w6 ⟨rfl,X6⟩
             go_wp2_with fail
             go_roundw
             case rel => exact ⟨j + 1,by omega,by go_num,HE2,(HX2.out.trans (by first | exact HXD.out | exact HXD.out.drew)).trans X6⟩
             case measure => simp [intOf]; omega
          · rw [if_pos a3] at hE
            subst hE
            have bo:(O != 0)=true:=by simp [a3]
            clear a3
            go_wp2_with fail
            clear c0 c1 hq0 hW1 hT7
            go_region_held3 (fun W9 => W9.cell? ⟨T7,0,none⟩=some (.int .i64 ci) ∧ W9.cell? ⟨T7,1,none⟩=some (.slice oo n oc) ∧ W9.cell? ⟨b2,off2 + j,none⟩=some (.int .i64 ci))
             (first | exact ⟨XD.cell y0,XD.cell y1,XD.cell z0⟩ | exact ⟨y0,y1,z0⟩ | go_keep)
             (first | (go_at_call 55; refine (HC.out _ (by repeat' (first | with_reducible exact Ext.refl _ | with_reducible apply Ext.alloc | with_reducible apply Ext.drew | with_reducible apply Ext.drewN))).mono ?_; rintro e w5 ⟨rfl,X5⟩; have XD:Ext W1 w5:=Ext.trans (by repeat' (first | with_reducible exact Ext.refl _ | with_reducible apply Ext.alloc | with_reducible apply Ext.drew | with_reducible apply Ext.drewN)) X5))
            all_goals
             have y1:=XD.cell y1
             have HXD:=Lib.hid XD
             clear XD
             go_wp2_with fail
             refine (HOE.out _ (by first | exact HX3.out.trans HXD.out | exact (HX3.out.trans HXD.out).drew)).mono ?_
             rintro e w6 ⟨rfl,X6⟩
             go_wp2_with fail
             go_ret
             exact ⟨rfl,(X1.trans (HX2.out.trans (by first | exact HXD.out | exact HXD.out.drew))).trans X6⟩
        · have hq:Q=3:=by rw [← hE,if_pos (.inr a2)]
          subst hq
          have bf2:((n:Int) != (m:Int))=true:=by rw [bne_iff_ne]; omega
          clear hE a2
          go_wp2_with fail
          clear c0 c1 hq0 hW1 hT7
          go_region_held3 (fun W9 => W9.cell? ⟨T7,0,none⟩=some (.int .i64 ci) ∧ W9.cell? ⟨T7,1,none⟩=some (.slice oo n oc) ∧ W9.cell? ⟨b2,off2 + j,none⟩=some (.int .i64 ci))
           (first | exact ⟨XD.cell y0,XD.cell y1,XD.cell z0⟩ | exact ⟨y0,y1,z0⟩ | go_keep)
           (first | (go_at_call 55; refine (HC.out _ (by repeat' (first | with_reducible exact Ext.refl _ | with_reducible apply Ext.alloc | with_reducible apply Ext.drew | with_reducible apply Ext.drewN))).mono ?_; rintro e w5 ⟨rfl,X5⟩; have XD:Ext W1 w5:=Ext.trans (by repeat' (first | with_reducible exact Ext.refl _ | with_reducible apply Ext.alloc | with_reducible apply Ext.drew | with_reducible apply Ext.drewN)) X5))
          all_goals
           have HXD:=Lib.hid XD
           clear XD
           go_wp2_with fail
           go_ret
           exact ⟨rfl,X1.trans (HX2.out.trans (by first | exact HXD.out | exact HXD.out.drew))⟩
      · have hq:Q=3:=by rw [← hE,if_pos (.inl a1)]
        subst hq
        have bf1:(ci != q)=true:=by rw [bne_iff_ne]; exact a1
        clear hE a1
        go_wp2_with fail
        clear c0 c1 hq0 hW1 hT7
        go_quiet (fail)
        go_wp2_with fail
        go_ret
        exact ⟨rfl,(X1.trans HX2.out).drewN _⟩
    · have hq:Q=0:=by
       rw [← HE.out,List.drop_eq_nil_of_le (show S.length ≤ j by omega)]
       cases I.drop j <;> rfl
      subst hq
      have hge:¬ (j:Int) < (S.length:Int):=by omega
      clear hlt
      go_wp2_with fail
      go_ret
      exact ⟨rfl,X1.trans X⟩
 · rw [if_pos hl] at hQ
   subst hQ
   have hb:((I.length:Int) != (S.length:Int))=true:=by rw [bne_iff_ne]; omega
   clear hl
   go_enter Tryz.func15,Tryz.ntmps15
   go_wp2_with fail
   refine HIN.out.mono ?_
   rintro e w1 ⟨iv0,rfl,hI,X1⟩
   obtain ⟨io,ic,rfl,_,_⟩:=hI.open
   go_wp2_with fail
   go_ret
   exact ⟨rfl,X1⟩
section
variable {B:Nat} {e1 e2:TypeId} {w w':World} {lv rv:Value} {ml mr:Nat} {xs ys:List Value}
theorem LI.bx {k:Nat} {x:Value} (h:LI B e1 e2 w lv rv ml mr xs ys) {W:World} (hk:w.heap.size ≤ k) (hc:W.cell? ⟨k,0,none⟩=some x) (hX:Ext W w'):Box w' lv rv k x:=by
 refine ⟨hX.cell hc,fun j hj => ?_,fun j hj => ?_⟩
 · have:=(h.lo.lt j hj).2; omega
 · have:=(h.ro.lt j hj).2; omega
theorem LI.bxA {x:Value} {e:TypeId} (h:LI B e1 e2 w lv rv ml mr xs ys) (hX:Ext (w.alloc (.cells #[x] e)) w'):Box w' lv rv w.heap.size x:=h.bx (Nat.le_refl _) (cell_new _ _ _) hX
theorem LI.bxAd {x:Value} {e:TypeId} (h:LI B e1 e2 w lv rv ml mr xs ys) (hX:Ext (w.alloc (.cells #[x] e)).drew w'):Box w' lv rv w.heap.size x:=h.bx (W:=(w.alloc (.cells #[x] e)).drew) (Nat.le_refl _) (cell_new _ _ _) hX
theorem LI.bxB {x:Value} {e:TypeId} {o:Obj} (h:LI B e1 e2 w lv rv ml mr xs ys) (hX:Ext ((w.alloc o).alloc (.cells #[x] e)) w'):Box w' lv rv (w.heap.size + 1) x:=h.bx (Nat.le_succ _) (cell_new2 _ _ _ _) hX
theorem LI.bxBd {x:Value} {e:TypeId} {o:Obj} (h:LI B e1 e2 w lv rv ml mr xs ys) (hX:Ext ((w.alloc o).alloc (.cells #[x] e)).drew w'):Box w' lv rv (w.heap.size + 1) x:=h.bx (W:=((w.alloc o).alloc (.cells #[x] e)).drew) (Nat.le_succ _) (cell_new2 _ _ _ _) hX
theorem LI.bxC {x:Value} {e:TypeId} {o:Obj} (h:LI B e1 e2 w lv rv ml mr xs ys) (hX:Ext ((w.alloc (.cells #[x] e)).alloc o) w'):Box w' lv rv w.heap.size x:=h.bx (Nat.le_refl _) (cell_old2 _ _ _ _) hX
theorem LI.bxCd {x:Value} {e:TypeId} {o:Obj} (h:LI B e1 e2 w lv rv ml mr xs ys) (hX:Ext ((w.alloc (.cells #[x] e)).alloc o).drew w'):Box w' lv rv w.heap.size x:=h.bx (W:=((w.alloc (.cells #[x] e)).alloc o).drew) (Nat.le_refl _) (cell_old2 _ _ _ _) hX
end
def setsK (T:List Nd) (p:Int) (k:Nat):List (Int × Int):=(((List.range k).map Int.ofNat).filter fun q => T.any fun x => isMove x p q).map fun q => (q,(widthT T p q:Int))
theorem setsK_succ (T:List Nd) (p:Int) (k:Nat):setsK T p (k + 1)=setsK T p k ++ if (T.any fun x => isMove x p (k:Int))=true then [((k:Int),(widthT T p (k:Int):Int))] else []:=by
 unfold setsK
 rw [List.range_succ,List.map_append,List.filter_append,List.map_append]
 congr 1
 show ((List.filter _ [Int.ofNat k]).map _)=_
 by_cases h:(T.any fun x => isMove x p (k:Int))=true
 · rw [if_pos h,List.filter_cons_of_pos (by exact h)]; rfl
 · rw [if_neg h,List.filter_cons_of_neg (by exact h)]; rfl
def SetsPost (T:List Nd) (p:Int) (u:Value) (w w':World):Prop:=∃ a b,u=.tuple #[a,b] ∧ Ints w' a ((setsP T p).map (·.1)) ∧ Ints w' b ((setsP T p).map (·.2)) ∧ Ext w w'
set_option maxHeartbeats 6400000 in
set_option maxRecDepth 100000 in
theorem sets_any (v:Value) (T:List Nd) (p:Int) (w:World) (hv:TreeIn w v T) :
 Calls Tryz.prog 64 #[v,.int .i64 p] w fun e w' => ∃ u,e=.returned u ∧ SetsPost T p u w w':=by
 obtain ⟨wo,rfl⟩:∃ wo:World,wo=w:=⟨_,rfl⟩
 obtain ⟨W1,hW1⟩:∃ W1,wo.alloc (.cells #[.int .i64 p] 3)=W1:=⟨_,rfl⟩
 have X1:Ext wo W1:=by rw [← hW1]; exact (Ext.refl wo).alloc _
 obtain ⟨T7,hT7⟩:∃ T7,wo.heap.size=T7:=⟨_,rfl⟩
 have y0:W1.cell? ⟨T7,0,none⟩=some (.int .i64 p):=by rw [← hW1,← hT7]; simp [go_sem]
 have HV:=Lib.hid hv
 have HIX:=Lib.hid (fun (q:Int) (T8:Nat) W (hX:Ext wo W) (h1:W.cell? ⟨T7,0,none⟩=some (.int .i64 p)) (h2:W.cell? ⟨T8,0,none⟩=some (.int .i64 q)) => indexFunc_nodes v T (T.map fun x => isMove x p q) 110 #[.pointer (some ⟨T7,0,none⟩),.pointer (some ⟨T8,0,none⟩)] W (hv.ext hX) (by simp) (fun args w => by kernel_rfl) (fun i x b W2 no nc oo oc hx hb hX2 => by
  rw [List.getElem?_map,hx] at hb
  obtain rfl:=Option.some.inj hb
  exact setsClo_any x p q T7 T8 no nc oo oc W2 (hX2.cell h1) (hX2.cell h2)))
 obtain ⟨ao,c,rfl,hlen,hn⟩:=hv.open
 have HN:=Lib.hid hn
 have HX1:=Lib.hid X1
 clear hv hn X1
 go_enter Tryz.func64,Tryz.ntmps64
 go_wp2_with fail
 go_loopw [6,7,10] (fun lv rv iv wr => ∃ (i:Nat),i ≤ 10 ∧ iv=.int .i64 i ∧ Hid (LI W1.heap.size 3 3 wr lv rv (setsK T p i).length (setsK T p i).length (((setsK T p i).map (·.1)).map (Value.int .i64)) (((setsK T p i).map (·.2)).map (Value.int .i64))) ∧ Hid ((setsK T p i).length ≤ i) ∧ Ext W1 wr) (fun _ _ iv _ => 10 - (intOf iv).toNat)
 case atStart => exact ⟨0,Nat.zero_le _,rfl,LI.start _ _ _ _,Nat.le_refl _,Ext.refl _⟩
 case round =>
  obtain ⟨i,hi,rfl,HL,HB,X⟩:=hrel
  by_cases hlt:i < 10
  · have hii:(i:Int) < 10:=by omega
    obtain ⟨T8,hT8⟩:∃ T8,wr.heap.size=T8:=⟨_,rfl⟩
    obtain ⟨W5,hW5⟩:∃ W5,wr.alloc (.cells #[.int .i64 (i:Int)] 3)=W5:=⟨_,rfl⟩
    have X5:Ext wr W5:=by rw [← hW5]; exact (Ext.refl wr).alloc _
    have k0:W5.cell? ⟨T8,0,none⟩=some (.int .i64 (i:Int)):=by rw [← hW5,← hT8]; exact cell_new _ _ _
    have z0:=(X.trans X5).cell y0
    have hix:=HIX.out (i:Int) T8 W5 (HX1.out.trans (X.trans X5)) z0 k0
    have HL5:=Lib.hid (HL.out.ext X5)
    have HBX:Hid (Box W5 u6 u7 T8 (.int .i64 (i:Int))):=HL.out.bx (k:=T8) (W:=W5) (by omega) k0 (Ext.refl _)
    have HX5:=Lib.hid (X.trans X5)
    have HK:=Lib.hid (setsK_succ T p i)
    obtain ⟨L,hL⟩:∃ L,setsK T p i=L:=⟨_,rfl⟩
    rw [hL] at HL5 HB HK
    have hll:=HB.out
    rcases idxF_find (fun x => isMove x p (i:Int)) T 0 with ⟨e1,e2⟩ | ⟨j,x,e1,e2,e3⟩
    · rw [e1] at hix
      have hany:(T.any fun x => isMove x p (i:Int))=false:=by
       rw [Bool.eq_false_iff]
       intro h
       obtain ⟨x,hx,hm⟩:=List.any_eq_true.1 h
       exact absurd hm (List.find?_eq_none.1 e2 x hx)
      have hsk:setsK T p (i + 1)=L:=by rw [HK.out,hany]; simp
      have HIX5:=Lib.hid hix
      have HSK:=Lib.hid hsk
      clear hix hany hsk e1 e2 hL HBX
      go_wp2_with fail
      refine HIX5.out.mono ?_
      rintro e w6 ⟨rfl,X6⟩
      have HL6:=Lib.hid (HL5.out.ext X6)
      have HX6:=Lib.hid (HX5.out.trans X6)
      clear X6
      go_wp2_with fail
      go_roundw
      case rel => exact ⟨i + 1,by omega,by go_num,by rw [HSK.out]; exact HL6.out,by rw [HSK.out]; exact Nat.le_succ_of_le hll,HX6.out⟩
      case measure => simp [intOf]; omega
    · rw [e1] at hix
      obtain ⟨b,off,no,nc,oo,oc,hao,_,_,_,c3,_,_,_,_,_⟩:=HN.out.at (Lib.hid e2)
      subst hao
      have hany:(T.any fun x => isMove x p (i:Int))=true:=List.any_eq_true.2 ⟨x,List.mem_of_getElem? e2,(@List.find?_some _ (fun x => isMove x p (i:Int)) _ _ e3)⟩
      have hwd:widthT T p (i:Int)=x.next.length:=by unfold widthT; rw [e3]
      have hjl:j < T.length:=by
       rcases Nat.lt_or_ge j T.length with h | h
       · exact h
       · rw [List.getElem?_eq_none_iff.2 h] at e2; cases e2
      obtain ⟨nx,hnx⟩:∃ nx,x.next.length=nx:=⟨_,rfl⟩
      rw [hnx] at c3 hwd
      have hsk:setsK T p (i + 1)=L ++ [((i:Int),(nx:Int))]:=by rw [HK.out,hany,if_pos rfl,hwd]
      have hz:(0:Int) + (j:Int)=(j:Int):=by omega
      rw [hz] at hix
      have HSK:=Lib.hid hsk
      have HIX5:=Lib.hid hix
      have HC3:=Lib.hid (HX1.out.cell c3)
      clear hix hany hsk e1 e2 e3 hL hwd hnx hz c3 k0 z0 X5 X
      go_wp2_with fail
      refine HIX5.out.mono ?_
      rintro e w6 ⟨rfl,X6⟩
      have q3:=HC3.out
      have HBX:=Lib.hid (Box.ext HBX.out X6)
      have HLR:=Lib.hid (HL5.out.ext X6)
      have Z:=Lib.hid (HX5.out.trans X6)
      have hgj:(0:Int) ≤ (j:Int):=by omega
      have hjT:(j:Int) < (T.length:Int):=by omega
      obtain ⟨mm,hmm⟩:∃ mm,L.length=mm:=⟨_,rfl⟩
      rw [hmm] at HLR hll
      have HMM:=Lib.hid hmm
      have HLE:=Lib.hid hll
      have hL1:mm + 1 ≤ 17592186044416:=by omega
      have hL2:(mm + 1) * 8 ≤ 140737488355328:=by omega
      clear hmm X6 HC3 HB hW5 hll HL HL5 hjl
      go_wp2_with fail
      go_region_held3 (fun W9 => W9.cell? ⟨T8,0,none⟩=some (.int .i64 (i:Int)) ∧ W9.cell? ⟨b,off + j * 6 + 3,none⟩=some (.slice no nx nc))
       (exact ⟨(Box.ext HBX.out (by repeat' (first | with_reducible exact Ext.refl _ | with_reducible apply Ext.alloc | with_reducible apply Ext.drew))).cell,Ext.cell (Z.out.trans (by repeat' (first | with_reducible exact Ext.refl _ | with_reducible apply Ext.alloc | with_reducible apply Ext.drew))) q3⟩)
       (first
         | (refine step_app1 (s:=.tmp 18) (x:=.tmp 20) rfl rfl ei_ints rfl rfl (y:=.int .i64 (i:Int)) rfl (B:=W1.heap.size) (n:=mm) (by exact (LI.ext HLR.out (by repeat' (first | with_reducible exact Ext.refl _ | with_reducible apply Ext.alloc | with_reducible apply Ext.drew))).lo) (by first | exact (Box.ext HP.out (by repeat' (first | with_reducible exact Ext.refl _ | with_reducible apply Ext.alloc | with_reducible apply Ext.drew))).cell | ((try simp only [drew_cell]); first | exact cell_new _ _ _ | exact cell_new2 _ _ _ _ | exact cell_old2 _ _ _ _)) hL1 hL2 (by exact Ext.size (Z.out.trans (by repeat' (first | with_reducible exact Ext.refl _ | with_reducible apply Ext.alloc | with_reducible apply Ext.drew)))) ?_; intro v8 w8 hown hgrew; (first | have HQ:=Lib.hid (show Box w8 _ _ _ (.int .i64 (nx:Int)) from by with_reducible exact Box.stepL (LI.bxA HLR.out (Ext.refl _)) hgrew) | have HQ:=Lib.hid (show Box w8 _ _ _ (.int .i64 (nx:Int)) from by with_reducible exact Box.stepL (LI.bxAd HLR.out (Ext.refl _)) hgrew) | have HQ:=Lib.hid (show Box w8 _ _ _ (.int .i64 (nx:Int)) from by with_reducible exact Box.stepL (LI.bxB HLR.out (Ext.refl _)) hgrew) | have HQ:=Lib.hid (show Box w8 _ _ _ (.int .i64 (nx:Int)) from by with_reducible exact Box.stepL (LI.bxBd HLR.out (Ext.refl _)) hgrew) | have HQ:=Lib.hid (show Box w8 _ _ _ (.int .i64 (nx:Int)) from by with_reducible exact Box.stepL (LI.bxC HLR.out (Ext.refl _)) hgrew) | have HQ:=Lib.hid (show Box w8 _ _ _ (.int .i64 (nx:Int)) from by with_reducible exact Box.stepL (LI.bxCd HLR.out (Ext.refl _)) hgrew) | have HQ:=Lib.hid (show Box w8 _ _ _ (.int .i64 (nx:Int)) from Box.stepL (Box.ext HQ.out (by repeat' (first | with_reducible exact Ext.refl _ | with_reducible apply Ext.alloc | with_reducible apply Ext.drew))) hgrew) | skip); have HBX:=Lib.hid (Box.stepL (Box.ext HBX.out (by repeat' (first | with_reducible exact Ext.refl _ | with_reducible apply Ext.alloc | with_reducible apply Ext.drew))) hgrew); have Z:=Lib.hid (hgrew.extNew (Z.out.trans (by repeat' (first | with_reducible exact Ext.refl _ | with_reducible apply Ext.alloc | with_reducible apply Ext.drew))) (LI.ext HLR.out (by repeat' (first | with_reducible exact Ext.refl _ | with_reducible apply Ext.alloc | with_reducible apply Ext.drew))).lo (Nat.le_refl _)); have HLR:=Lib.hid (LI.stepL (LI.ext HLR.out (by repeat' (first | with_reducible exact Ext.refl _ | with_reducible apply Ext.alloc | with_reducible apply Ext.drew))) hown hgrew); clear hown hgrew)
         | (refine step_app1 (s:=.tmp 22) (x:=.tmp 29) rfl rfl ei_ints rfl rfl (y:=.int .i64 (nx:Int)) rfl (B:=W1.heap.size) (n:=mm) (by exact (LI.ext HLR.out (by repeat' (first | with_reducible exact Ext.refl _ | with_reducible apply Ext.alloc | with_reducible apply Ext.drew))).ro) (by first | exact (Box.ext HQ.out (by repeat' (first | with_reducible exact Ext.refl _ | with_reducible apply Ext.alloc | with_reducible apply Ext.drew))).cell | ((try simp only [drew_cell]); first | exact cell_new _ _ _ | exact cell_new2 _ _ _ _ | exact cell_old2 _ _ _ _)) hL1 hL2 (by exact Ext.size (Z.out.trans (by repeat' (first | with_reducible exact Ext.refl _ | with_reducible apply Ext.alloc | with_reducible apply Ext.drew)))) ?_; intro v9 w9 hown hgrew; (first | have HP:=Lib.hid (show Box w9 _ _ _ (.int .i64 (i:Int)) from by with_reducible exact Box.stepR (LI.bxA HLR.out (Ext.refl _)) hgrew) | have HP:=Lib.hid (show Box w9 _ _ _ (.int .i64 (i:Int)) from by with_reducible exact Box.stepR (LI.bxAd HLR.out (Ext.refl _)) hgrew) | have HP:=Lib.hid (show Box w9 _ _ _ (.int .i64 (i:Int)) from by with_reducible exact Box.stepR (LI.bxB HLR.out (Ext.refl _)) hgrew) | have HP:=Lib.hid (show Box w9 _ _ _ (.int .i64 (i:Int)) from by with_reducible exact Box.stepR (LI.bxBd HLR.out (Ext.refl _)) hgrew) | have HP:=Lib.hid (show Box w9 _ _ _ (.int .i64 (i:Int)) from by with_reducible exact Box.stepR (LI.bxC HLR.out (Ext.refl _)) hgrew) | have HP:=Lib.hid (show Box w9 _ _ _ (.int .i64 (i:Int)) from by with_reducible exact Box.stepR (LI.bxCd HLR.out (Ext.refl _)) hgrew) | have HP:=Lib.hid (show Box w9 _ _ _ (.int .i64 (i:Int)) from Box.stepR (Box.ext HP.out (by repeat' (first | with_reducible exact Ext.refl _ | with_reducible apply Ext.alloc | with_reducible apply Ext.drew))) hgrew) | skip); have HBX:=Lib.hid (Box.stepR (Box.ext HBX.out (by repeat' (first | with_reducible exact Ext.refl _ | with_reducible apply Ext.alloc | with_reducible apply Ext.drew))) hgrew); have Z:=Lib.hid (hgrew.extNew (Z.out.trans (by repeat' (first | with_reducible exact Ext.refl _ | with_reducible apply Ext.alloc | with_reducible apply Ext.drew))) (LI.ext HLR.out (by repeat' (first | with_reducible exact Ext.refl _ | with_reducible apply Ext.alloc | with_reducible apply Ext.drew))).ro (Nat.le_refl _)); have HLR:=Lib.hid (LI.stepR (LI.ext HLR.out (by repeat' (first | with_reducible exact Ext.refl _ | with_reducible apply Ext.alloc | with_reducible apply Ext.drew))) hown hgrew); clear hown hgrew))
      all_goals (
       go_wp2_with fail
       go_roundw
       case rel =>
        refine ⟨i + 1,by omega,by go_num,?_,?_,Z.out⟩
        · rw [HSK.out]
          show LI _ _ _ _ _ _ _ _ _ _
          simp only [List.map_append,List.length_append,List.map_cons,List.map_nil,List.length_cons,List.length_nil,HMM.out]
          exact HLR.out
        · rw [HSK.out]
          show _ ≤ _
          rw [List.length_append,HMM.out]
          exact Nat.succ_le_succ HLE.out
       case measure => simp [intOf]; omega)
  · have hi10:i=10:=by omega
    subst hi10
    have HA:=Lib.hid (own_rowOf (xs:=(setsK T p 10).map (·.1)) HL.out.lo (by have:=HB.out; omega))
    have HC:=Lib.hid (own_rowOf (xs:=(setsK T p 10).map (·.2)) HL.out.ro (by have:=HB.out; omega))
    have hge:¬ ((10:Nat):Int) < 10:=by omega
    clear hlt
    go_wp2_with fail
    go_ret2
    exact ⟨_,rfl,_,_,rfl,HA.out,HC.out,HX1.out.trans X⟩
def InfosPost (T:List Nd) (p:Int) (u:Value) (w w':World):Prop:=Ext w w' ∧ ((playerE T p ≠ 0 ∧ u=.tuple #[.slice none 0 0,.slice none 0 0,.int .i64 (playerE T p)]) ∨ (playerE T p=0 ∧ ∃ a b,u=.tuple #[a,b,.int .i64 0] ∧ Ints w' a ((setsP T p).map (·.1)) ∧ Ints w' b ((setsP T p).map (·.2))))
set_option maxHeartbeats 1600000 in
set_option maxRecDepth 100000 in
theorem treeInfos_any (v:Value) (T:List Nd) (p:Int) (w:World) (htab:TabPow w) (hv:TreeIn w v T) (hz:TreeSz T) :
 Calls Tryz.prog 77 #[v,.int .i64 p] w fun e w' => ∃ u,e=.returned u ∧ InfosPost T p u w w':=by
 have HP:=Lib.hid (treePlayer_any v T p w htab hv hz)
 have HS:=Lib.hid (fun W (hX:Ext w W) => sets_any v T p W (hv.ext hX))
 obtain ⟨E,hE⟩:∃ E,playerE T p=E:=⟨_,rfl⟩
 rw [hE] at HP
 have HE:=Lib.hid hE
 obtain ⟨ao,c,rfl,_,_⟩:=hv.open
 clear hv hz hE
 by_cases h0:E=0
 · subst h0
   go_enter Tryz.func77,Tryz.ntmps77
   go_wp2_with fail
   refine HP.out.mono ?_
   rintro e w2 ⟨rfl,X2⟩
   have HX2:=Lib.hid X2
   have HS2:=Lib.hid (HS.out w2 X2)
   clear X2
   go_wp2_with fail
   refine HS2.out.mono ?_
   rintro e w3 ⟨u,rfl,a,b,rfl,h1,h2,X3⟩
   have H1:=Lib.hid h1
   have H2:=Lib.hid h2
   clear h1 h2
   go_wp2_with fail
   go_ret3
   exact ⟨_,rfl,HX2.out.trans X3,.inr ⟨HE.out,_,_,rfl,H1.out,H2.out⟩⟩
 · have hb:(E != 0)=true:=by simp [h0]
   go_enter Tryz.func77,Tryz.ntmps77
   go_wp2_with fail
   refine HP.out.mono ?_
   rintro e w2 ⟨rfl,X2⟩
   go_wp2_with fail
   go_ret3
   exact ⟨_,rfl,X2,.inl ⟨by rw [HE.out]; exact h0,by rw [HE.out]; rfl⟩⟩
def facL (l:Option (List Rat)) (c:Nat):Rat:=match l with
 | none => 1
 | some l => (l[c]?).getD 1
def oddsL (T:List Nd) (O:Nat → Option (List Rat)) (i:Nat):Option (List Rat):=match T[i]? with
 | none => none
 | some x => if x.kind=1 then some (x.odds.map ratOf) else if x.kind=2 then O i else none
noncomputable instance (T:List Nd) (i c k:Nat):Decidable (doneP T i c k):=Classical.propDecidable _
noncomputable def rchL (T:List Nd) (r:Nat → Rat) (i c:Nat):List (Option Rat):=(List.range T.length).map fun k => if doneP T i c k then some (r k) else none
theorem rchL_len (T:List Nd) (r:Nat → Rat) (i c:Nat):(rchL T r i c).length=T.length:=by unfold rchL; rw [List.length_map,List.length_range]
theorem rchL_get {T:List Nd} {r:Nat → Rat} {i c k:Nat} (hk:k < T.length) (hd:doneP T i c k):(rchL T r i c)[k]?=some (some (r k)):=by
 unfold rchL
 rw [List.getElem?_map,List.getElem?_range hk]
 show some (if doneP T i c k then some (r k) else none)=_
 rw [if_pos hd]
theorem rchL_zero {T:List Nd} {r:Nat → Rat} (hT:0 < T.length) (h0:r 0=1):(List.replicate T.length (none:Option Rat)).set 0 (some 1)=rchL T r 0 0:=by
 refine List.ext_getElem? fun k => ?_
 unfold rchL
 rw [List.getElem?_map]
 by_cases hk:k < T.length
 · rw [List.getElem?_range hk]
   by_cases hz:k=0
   · subst hz
     rw [List.getElem?_set_self (by rw [List.length_replicate]; exact hk)]
     show _=some (if doneP T 0 0 0 then some (r 0) else none)
     rw [if_pos (.inl rfl),h0]
   · rw [List.getElem?_set_ne (by omega),List.getElem?_replicate,if_pos hk]
     show _=some (if doneP T 0 0 k then some (r k) else none)
     rw [if_neg fun h => hz (doneP.zero h)]
 · rw [List.getElem?_eq_none (by rw [List.length_set,List.length_replicate]; omega),List.getElem?_eq_none (by rw [List.length_range]; omega)]; rfl
theorem doneP.more {T:List Nd} {i c k:Nat} (h:doneP T i c k):doneP T i (c + 1) k:=by
 rcases h with h | ⟨a,d,x,h1,h2,h3⟩
 · exact .inl h
 · exact .inr ⟨a,d,x,h1,h2,by omega⟩
theorem rchL_step {T:List Nd} (hv:Valid T) {r:Nat → Rat} {i c n:Nat} {x:Nd} (hx:T[i]?=some x) (hn:x.next[c]?=some (n:Int)) (hnT:n < T.length):(rchL T r i c).set n (some (r n))=rchL T r i (c + 1):=by
 refine List.ext_getElem? fun k => ?_
 by_cases hk:k < T.length
 · by_cases hkn:k=n
   · subst hkn
     rw [List.getElem?_set_self (by rw [rchL_len]; exact hk),rchL_get hk (.inr ⟨i,c,x,hx,hn,.inr ⟨rfl,by omega⟩⟩)]
   · rw [List.getElem?_set_ne (by omega)]
     unfold rchL
     rw [List.getElem?_map,List.getElem?_map,List.getElem?_range hk]
     show some (if doneP T i c k then some (r k) else none)=some (if doneP T i (c + 1) k then some (r k) else none)
     by_cases hd:doneP T i (c + 1) k
     · rw [if_pos hd,if_pos ((hv.done_succ hx hn hd).elim (fun h => absurd h hkn) (·.2))]
     · rw [if_neg hd,if_neg fun h => hd h.more]
 · rw [List.getElem?_eq_none (by rw [List.length_set,rchL_len]; omega),List.getElem?_eq_none (by rw [rchL_len]; omega)]
theorem rchL_next {T:List Nd} {r:Nat → Rat} {i:Nat} {x:Nd} (hx:T[i]?=some x):rchL T r i x.next.length=rchL T r (i + 1) 0:=by
 refine List.map_congr_left fun k _ => ?_
 by_cases hd:doneP T (i + 1) 0 k
 · rw [if_pos hd,if_pos (doneP.next hx hd)]
 · rw [if_neg hd,if_neg fun h => hd ?_]
   rcases h with h | ⟨a,d,y,h1,h2,h3⟩
   · exact .inl h
   · exact .inr ⟨a,d,y,h1,h2,by omega⟩
theorem rchL_all {T:List Nd} (hv:Valid T) {r:Nat → Rat}:rchL T r T.length 0=((List.range T.length).map r).map some:=by
 unfold rchL
 rw [List.map_map]
 refine List.map_congr_left fun k hk => ?_
 rw [if_pos (hv.done_all (List.mem_range.1 hk))]; rfl
theorem QsG.at {w:World} {B g n cap:Nat} {qs:List (Option Rat)} (h:QsG w B (.slice (some ⟨g,0,none⟩) n cap) qs) {i:Nat} {q:Rat} (hq:qs[i]?=some (some q)):∃ s a l c b m d,
 w.cell? ⟨g,i * 3,none⟩=some (.bool s) ∧ w.cell? ⟨g,i * 3 + 1,none⟩=some (.slice a l c) ∧ w.cell? ⟨g,i * 3 + 2,none⟩=some (.slice b m d) ∧ QV w (.agg #[.bool s,.slice a l c,.slice b m d]) q:=by
 obtain ⟨ts,h1,h2,h3,h4⟩:=h
 have hi:=(List.getElem?_eq_some_iff.1 hq).1
 have ht:ts[i]?=some (ts[i]'(by omega)):=List.getElem?_eq_getElem (by omega)
 have hv:=h4 i _ q ht hq
 obtain ⟨s,a,l,c,b,m,d,e⟩:=hv.parts
 rw [e] at hv ht
 obtain ⟨p0,p1,p2⟩:=flatT_get ts i _ ht
 have k0:=h1.cells (g:=g) rfl _ _ p0
 have k1:=h1.cells (g:=g) rfl _ _ p1
 have k2:=h1.cells (g:=g) rfl _ _ p2
 rw [Addr.add_lit,Nat.zero_add] at k0 k1 k2
 exact ⟨s,a,l,c,b,m,d,k0,k1,k2,hv⟩
theorem QsG.lt' {w:World} {B g n cap:Nat} {qs:List (Option Rat)} (h:QsG w B (.slice (some ⟨g,0,none⟩) n cap) qs):g < w.heap.size:=by
 obtain ⟨ts,h1,_⟩:=h
 exact (h1.lt g rfl).2
theorem oddsE_ok {l:List ByteArray} (h:oddsE l=0):∀ s ∈ l,RatOk s:=by
 by_cases h1:256 < l.length
 · rw [oddsE_large h1] at h; cases h
 · by_cases h2:errsL l=0
   · exact errsL_ok h2
   · rw [oddsE_errs h1 h2] at h; exact absurd h h2
def OddV (w:World) (u:Value) (L:Option (List Rat)) (n:Nat):Prop:=match L with
 | none => u=.slice none 0 0
 | some l => QsV w u l ∧ l.length=n
set_option maxHeartbeats 6400000 in
set_option maxRecDepth 100000 in
theorem reach_any (v:Value) (T:List Nd) (g:Nat) (caps:Array Value) (O:Nat → Option (List Rat)) (r:Nat → Rat) (w:World) (hv:TreeIn w v T) (hT:Valid T) (hz:TreeSz T)
 (eg:∀ args w,(callFunc g args).run Tryz.prog w=.ok (.enter g args) w)
 (hp:∀ (i:Nat) (x:Nd),T[i]?=some x → x.kind=2 → ∃ u,OddV w u (O i) x.next.length ∧ ∀ (W:World) no nc oo oc,Ext w W → Calls Tryz.prog g (#[ndV x no nc oo oc] ++ caps) W fun e W' => e=.returned u ∧ Ext W W')
 (h0:r 0=1) (hr:∀ (i c:Nat) (x:Nd) (k:Nat),T[i]?=some x → x.next[c]?=some (k:Int) → r k=r i * facL (oddsL T O i) c)
 (hb:∀ i,i < T.length → QB (r i)) (hob:∀ i l,oddsL T O i=some l → ∀ q ∈ l,QB q) :
 Calls Tryz.prog 94 #[v,.func (.func g) #[] caps] w fun e w' => ∃ u,e=.returned u ∧ QsO w' w.heap.size u ((List.range T.length).map r) ∧ Ext w w':=by
 obtain ⟨wo,rfl⟩:∃ wo:World,wo=w:=⟨_,rfl⟩
 obtain ⟨ao,cc,rfl,hlen,hn⟩:=hv.open
 have HN:=Lib.hid hn
 have HP:=Lib.hid hp
 have HR:=Lib.hid hr
 have HB:=Lib.hid hb
 have HOBA:=Lib.hid hob
 have HZ:=Lib.hid hz
 have HO1:=Lib.hid (fun W => qOf_any 1 W (by omega) (by omega))
 have HEND:=Lib.hid (rchL_all hT (r:=r))
 have HBEG:=Lib.hid (rchL_zero hT.pos h0)
 obtain ⟨n,hnn⟩:∃ n,T.length=n:=⟨_,rfl⟩
 have hT1:=hT.pos
 have hT2:=hT.len
 rw [hnn] at hT1 hT2 HBEG HEND ⊢
 have HNN:=Lib.hid hnn
 have hn0:(0:Int) < (n:Int):=by omega
 have hn2:(n:Int) ≤ 120:=by omega
 obtain ⟨K7,hK7⟩:∃ K7,wo.heap.size=K7:=⟨_,rfl⟩
 have hKo:wo.heap.size ≤ K7:=by omega
 rw [hK7]
 clear hn hp hr hb hob hz h0 hv
 obtain ⟨iq,iq1,iq2,iq3,iq4⟩:=ei_q.info
 go_enter Tryz.func94,Tryz.ntmps94
 go_wp2_with (first
  | (refine wpList_make_full _ rfl _ _ _ rfl K7 89 iq (.agg #[.bool false,.slice none 0 0,.slice none 0 0]) 3 ei_q.und iq1 iq2 iq3 .i64 .i64 _ _ n rfl rfl rfl rfl (by rw [iq4]; omega) (by unfold maxLen; omega) (by omega) ?_; intro w3 hm1 hm2; have X3:Ext wo w3:=⟨hm2.os,hm2.tape,hm2.output,hm2.size,fun k hk => hm2.block k hk (by simp)⟩))
 rw [hK7] at hm1
 have HG0:=Lib.hid (QsG.made hm1)
 have HX3:=Lib.hid X3
 clear hm1 hm2 X3
 go_wp2_with fail
 refine (HO1.out _).mono ?_
 rintro e w4 ⟨u4,rfl,h4,X4⟩
 obtain ⟨s9,ao9,l9,c9,bo9,m9,d9,rfl,_,_,_⟩:=h4.opn
 obtain ⟨x9,y9,z9,hst,hput⟩:=(HG0.out.ext X4).stored (i:=0) (by rw [List.length_replicate]; exact hT1)
 obtain ⟨w7,h7,hgr,hO7⟩:=hput _ _ _ _ _ _ _ _ h4
 have f0:w4.frozen? ⟨K7,0,none⟩=false:=hst.f0
 have c0:w4.cell? ⟨K7,0,none⟩=some x9:=hst.c0
 have f1:∀ a,(w4.setCell ⟨K7,0,none⟩ a).frozen? ⟨K7,1,none⟩=false:=hst.f1
 have c1:∀ a,(w4.setCell ⟨K7,0,none⟩ a).cell? ⟨K7,1,none⟩=some y9:=hst.c1
 have f2:∀ a b,((w4.setCell ⟨K7,0,none⟩ a).setCell ⟨K7,1,none⟩ b).frozen? ⟨K7,2,none⟩=false:=hst.f2
 have c2:∀ a b,((w4.setCell ⟨K7,0,none⟩ a).setCell ⟨K7,1,none⟩ b).cell? ⟨K7,2,none⟩=some z9:=hst.c2
 have h7:((w4.setCell ⟨K7,0,none⟩ (.bool s9)).setCell ⟨K7,1,none⟩ (.slice ao9 l9 c9)).setCell ⟨K7,2,none⟩ (.slice bo9 m9 d9)=w7:=h7
 rw [show ((1:Int):Rat)=1 from rfl,HBEG.out] at hO7
 have HGS:=Lib.hid hO7
 have HXS:=Lib.hid ((HX3.out.trans X4).grown hgr hKo)
 clear hst hput hO7 hgr h4 HG0 HX3 X4 hnn
 go_wp2_with fail
 clear f0 c0 f1 c1 f2 c2 h7
 go_loopw [19] (fun iv wr => ∃ (i:Nat),i ≤ n ∧ iv=.int .i64 i ∧ Hid (QsG wr K7 (.slice (some ⟨K7,0,none⟩) n n) (rchL T r i 0)) ∧ Ext wo wr) (fun iv _ => n - (intOf iv).toNat)
 case atStart => exact ⟨0,Nat.zero_le _,rfl,HGS,HXS.out⟩
 case round =>
  clear HGS HXS
  obtain ⟨wq,rfl⟩:∃ wq:World,wq=wr:=⟨_,rfl⟩
  obtain ⟨i,hi,rfl,HG,X⟩:=hrel
  have hnn:=HNN.out
  by_cases hlt:i < n
  · obtain ⟨x,d1,d2,d3⟩:=get_lt (xs:=T) (k:=i) (by omega)
    have hix:=(HZ.out x (List.mem_of_getElem? d1.out)).2
    obtain ⟨b,off,no,nc,oo,oc,rfl,p0,p1,p2,p3,p4,p5,hnx,hox,hnI⟩:=HN.out.at d1
    have p0:=X.cell p0
    have p1:=X.cell p1
    have p2:=X.cell p2
    have p3:=X.cell p3
    have p4:=X.cell p4
    have p5:=X.cell p5
    have hii:(i:Int) < (n:Int):=by omega
    have HTX:=d1
    have HNC:=Lib.hid hnx
    have HOX:=Lib.hid hox
    have HOC:=Lib.hid hix
    have HNODE:=Lib.hid (hT.node i x d1.out)
    have HPI:=Lib.hid (HP.out i x d1.out)
    have hoL:oddsL T O i=if x.kind=1 then some (x.odds.map ratOf) else if x.kind=2 then O i else none:=by unfold oddsL; rw [d1.out]
    have HOI:=Lib.hid (HOBA.out i)
    have HCHA:Hid (nextE n i x.next=0 ∨ x.next=[] → ∀ (c:Nat) (k:Int),x.next[c]?=some k → ∃ m:Nat,k=(m:Int) ∧ i < m ∧ m < n ∧ r m=r i * facL (oddsL T O i) c ∧ (rchL T r i c).set m (some (r m))=rchL T r i (c + 1)):=fun hne c k hk => by
     rcases hne with hne | hne
     · obtain ⟨_,_,h3⟩:=nextE_zero hne
       obtain ⟨h4,h5⟩:=h3 k (List.mem_of_getElem? hk)
       obtain ⟨m,rfl⟩:∃ m:Nat,k=(m:Int):=⟨k.toNat,by omega⟩
       exact ⟨m,rfl,by omega,by omega,HR.out i c x m d1.out hk,rchL_step hT d1.out hk (by rw [HNN.out]; omega)⟩
     · rw [hne] at hk; cases hk
    obtain ⟨nx,hnx'⟩:∃ nx,x.next.length=nx:=⟨_,rfl⟩
    have HNL:=Lib.hid hnx'
    have HN6:Hid (nx ≤ 6):=by
     show _ ≤ _
     rcases HNODE.out with ⟨_,_,_,hN,_,_⟩ | ⟨_,_,_,_,_,_,hNE⟩ | ⟨_,_,_,_,_,_,hNE⟩
     · rw [← hnx',hN]; exact Nat.zero_le _
     · have:=(nextE_zero hNE).2.1; omega
     · have:=(nextE_zero hNE).2.1; omega
    obtain ⟨ox,hox'⟩:∃ ox,x.odds.length=ox:=⟨_,rfl⟩
    have HOL:=Lib.hid hox'
    obtain ⟨px,hpx⟩:∃ px,x.player=px:=⟨_,rfl⟩
    obtain ⟨qx,hqx⟩:∃ qx,x.info=qx:=⟨_,rfl⟩
    obtain ⟨yx,hyx⟩:∃ yx,x.pay=yx:=⟨_,rfl⟩
    rw [hnx'] at p3
    rw [hox'] at p4
    rw [hpx] at p1
    rw [hqx] at p2
    rw [hyx] at p5
    have HV1:=Lib.hid hpx
    have HV2:=Lib.hid hqx
    have HV3:=Lib.hid hyx
    rw [hnn] at HNODE
    clear hnx hox hnI hix d2 d3 hlt hnx' hox' hpx hqx hyx hnn d1
    rcases HNODE.out with ⟨k0,_,_,hN,_,_⟩ | ⟨k0,_,_,_,hOL,hOE,hNE⟩ | ⟨k0,hON,_,_,_,_,hNE⟩
    · have HCH:=Lib.hid (HCHA.out (.inr hN))
      rw [k0] at p0 hoL
      have HFL:Hid (∀ c,facL (oddsL T O i) c=1):=fun c => by rw [hoL]; rfl
      clear k0 hN hoL HNODE HCHA HPI HOI HOX HOC HV1 HV2 HV3
      obtain ⟨T7,hT7⟩:∃ T7,wq.heap.size=T7:=⟨_,rfl⟩
      obtain ⟨W5,hW5⟩:∃ W5,wq.alloc (.cells #[.int .i64 0,.int .i64 px,.int .i64 qx,.slice no nx nc,.slice oo ox oc,.string yx] 79)=W5:=⟨_,rfl⟩
      have X5:Ext wq W5:=by rw [← hW5]; exact (Ext.refl wq).alloc _
      have y0:W5.cell? ⟨T7,0,none⟩=some (.int .i64 0):=by rw [← hW5,← hT7]; simp [go_sem]
      have y1:W5.cell? ⟨T7,1,none⟩=some (.int .i64 px):=by rw [← hW5,← hT7]; simp [go_sem]
      have y2:W5.cell? ⟨T7,2,none⟩=some (.int .i64 qx):=by rw [← hW5,← hT7]; simp [go_sem]
      have y3:W5.cell? ⟨T7,3,none⟩=some (.slice no nx nc):=by rw [← hW5,← hT7]; simp [go_sem]
      have y4:W5.cell? ⟨T7,4,none⟩=some (.slice oo ox oc):=by rw [← hW5,← hT7]; simp [go_sem]
      have y5:W5.cell? ⟨T7,5,none⟩=some (.string yx):=by rw [← hW5,← hT7]; simp [go_sem]
      have HG5:=Lib.hid (HG.out.ext X5)
      have HX5:=Lib.hid (X.trans X5)
      clear HG X X5
      go_wp2_with fail
      clear hT7 hW5 p0 p1 p2 p3 p4 p5
      have HGI:=HG5
      have HXI:=HX5
      go_wp2_with fail
      go_loopw [39] (fun iv wr => ∃ (c:Nat),c ≤ nx ∧ iv=.int .i64 c ∧ Hid (QsG wr K7 (.slice (some ⟨K7,0,none⟩) n n) (rchL T r i c)) ∧ Ext wo wr) (fun iv _ => nx - (intOf iv).toNat)
      case atStart => exact ⟨0,Nat.zero_le _,rfl,HGI,HXI.out⟩
      case round =>
       clear HGI HXI
       obtain ⟨c,hc,rfl,HG,X⟩:=hrel
       by_cases hlc:c < nx
       · obtain ⟨k,k1,_,_⟩:=get_lt (xs:=x.next) (k:=c) (by rw [HNL.out]; exact hlc)
         obtain ⟨m,rfl,hm1,hm2,hm3,hm4⟩:=HCH.out c k k1.out
         obtain ⟨nb,noff,rfl,hk0⟩:=(HNC.out.ext X).at k1
         have hk0:wr.cell? ⟨nb,noff + c,none⟩=some (.int .i64 (m:Int)):=hk0
         have hlg:=(rchL_len T r i c).trans HNN.out
         have hnn:=HNN.out
         have hnx6:(nx:Int) ≤ 6:=by have:=HN6.out; omega
         obtain ⟨s5,ao5,l5,c5,bo5,m5,d5,e0,e1,e2,hq5⟩:=HG.out.at (rchL_get (by omega) (hT.done_self (by omega) c))
         obtain ⟨x9,y9,z9,hst,hput⟩:=HG.out.stored (i:=m) (by rw [hlg]; omega)
         obtain ⟨w7,h7,hgr,hO7⟩:=hput _ _ _ _ _ _ _ _ hq5
         have f0:=hst.f0
         have c0:=hst.c0
         have f1:=hst.f1
         have c1:=hst.c1
         have f2:=hst.f2
         have c2:=hst.c2
         have hci:(c:Int) < (nx:Int):=by omega
         have hii:(i:Int) < (n:Int):=by omega
         have hmi:(m:Int) < (n:Int):=by omega
         have X7:=X.grown hgr hKo
         have HP:=hO7
         rw [show r i=r m by rw [hm3,HFL.out c,Rat.mul_one],hm4] at HP
         have HP:=Lib.hid HP
         have HX7:=Lib.hid X7
         clear hst hput hO7 hgr hq5 hm3 hm4 hlc k1 X X7 hlg
         go_wp2_with fail
         go_roundw
         case rel => exact ⟨c + 1,by omega,by go_num,HP,HX7.out⟩
         case measure => simp [intOf] <;> omega
       · have hce:c=nx:=by omega
         subst hce
         have HP:Hid (QsG wr K7 (.slice (some ⟨K7,0,none⟩) n n) (rchL T r (i + 1) 0)):=by
          show QsG _ _ _ _
          rw [← rchL_next HTX.out,HNL.out]; exact HG.out
         clear hlc HG
         go_wp2_with fail
         go_roundw
         case rel => exact ⟨i + 1,by omega,by go_num,HP,X⟩
         case measure => simp [intOf] <;> omega
    · have HCH:=Lib.hid (HCHA.out (.inl hNE))
      obtain ⟨hnp,_,_⟩:=nextE_zero hNE
      rw [k0] at p0 hoL
      have HFL:Hid (∀ c,facL (oddsL T O i) c=((x.odds.map ratOf)[c]?).getD 1):=fun c => by rw [hoL]; rfl
      have hol0:0 < (x.odds.map ratOf).length:=by rw [List.length_map,hOL]; exact hnp
      have HLL:Hid ((x.odds.map ratOf).length=nx):=by show _=_; rw [List.length_map,hOL,HNL.out]
      have HOB:=Lib.hid (HOI.out (x.odds.map ratOf) (by rw [hoL]; rfl))
      have hno:=nextE_zero hNE
      have HIN:=Lib.hid (fun W (hX:Ext wo W) => ratInO_any (.slice oo x.odds.length oc) x.odds W (HOX.out.ext hX) (fun s hs => ⟨oddsE_ok hOE s hs,HOC.out s hs⟩) (by omega))
      rw [HOL.out] at HIN
      generalize x.odds.map ratOf=l at *
      clear k0 hoL HNODE HCHA HPI HOI HOX HOC HV1 HV2 HV3 hOL hOE hNE hnp hno HOL
      obtain ⟨T7,hT7⟩:∃ T7,wq.heap.size=T7:=⟨_,rfl⟩
      obtain ⟨W5,hW5⟩:∃ W5,wq.alloc (.cells #[.int .i64 1,.int .i64 px,.int .i64 qx,.slice no nx nc,.slice oo ox oc,.string yx] 79)=W5:=⟨_,rfl⟩
      have X5:Ext wq W5:=by rw [← hW5]; exact (Ext.refl wq).alloc _
      have y0:W5.cell? ⟨T7,0,none⟩=some (.int .i64 1):=by rw [← hW5,← hT7]; simp [go_sem]
      have y1:W5.cell? ⟨T7,1,none⟩=some (.int .i64 px):=by rw [← hW5,← hT7]; simp [go_sem]
      have y2:W5.cell? ⟨T7,2,none⟩=some (.int .i64 qx):=by rw [← hW5,← hT7]; simp [go_sem]
      have y3:W5.cell? ⟨T7,3,none⟩=some (.slice no nx nc):=by rw [← hW5,← hT7]; simp [go_sem]
      have y4:W5.cell? ⟨T7,4,none⟩=some (.slice oo ox oc):=by rw [← hW5,← hT7]; simp [go_sem]
      have y5:W5.cell? ⟨T7,5,none⟩=some (.string yx):=by rw [← hW5,← hT7]; simp [go_sem]
      have HG5:=Lib.hid (HG.out.ext X5)
      have HX5:=Lib.hid (X.trans X5)
      clear HG X X5
      go_wp2_with fail
      clear hT7 hW5 p0 p1 p2 p3 p4 p5
      refine (HIN.out _ HX5.out).mono ?_
      rintro e w6 ⟨u6,rfl,h6,X6⟩
      obtain ⟨lb,lc,rfl,hlb,_⟩:=h6.head hol0
      have hlbK:K7 < lb:=by have:=HG5.out.lt'; omega
      have HQI:=Lib.hid (h6.cells (by have:=HLL.out; have:=HNL.out; omega))
      have HGI:=Lib.hid (HG5.out.ext X6)
      have HXI:=Lib.hid (HX5.out.trans X6)
      have y3:=X6.cell y3
      have hlx:=HLL.out
      clear h6 X6 y0 y1 y2 y4 y5 HG5 HX5
      go_wp2_with fail
      go_loopw [39] (fun iv wr => ∃ (c:Nat),c ≤ nx ∧ iv=.int .i64 c ∧ Hid (QsG wr K7 (.slice (some ⟨K7,0,none⟩) n n) (rchL T r i c)) ∧ Hid (QCells wr (some ⟨lb,0,none⟩) l) ∧ Ext wo wr) (fun iv _ => nx - (intOf iv).toNat)
      case atStart => exact ⟨0,Nat.zero_le _,rfl,HGI,HQI,HXI.out⟩
      case round =>
       clear HGI HXI HQI
       obtain ⟨c,hc,rfl,HG,HQC,X⟩:=hrel
       by_cases hlc:c < nx
       · obtain ⟨k,k1,_,_⟩:=get_lt (xs:=x.next) (k:=c) (by rw [HNL.out]; exact hlc)
         obtain ⟨m,rfl,hm1,hm2,hm3,hm4⟩:=HCH.out c k k1.out
         obtain ⟨nb,noff,rfl,hk0⟩:=(HNC.out.ext X).at k1
         have hk0:wr.cell? ⟨nb,noff + c,none⟩=some (.int .i64 (m:Int)):=hk0
         have hlg:=(rchL_len T r i c).trans HNN.out
         have hnn:=HNN.out
         have hnx6:(nx:Int) ≤ 6:=by have:=HN6.out; omega
         obtain ⟨s5,ao5,l5,c5,bo5,m5,d5,e0,e1,e2,hq5⟩:=HG.out.at (rchL_get (by omega) (hT.done_self (by omega) c))
         obtain ⟨x9,y9,z9,hst,hput⟩:=HG.out.stored (i:=m) (by rw [hlg]; omega)
         obtain ⟨w7,h7,hgr,hO7⟩:=hput _ _ _ _ _ _ _ _ hq5
         have f0:=hst.f0
         have c0:=hst.c0
         have f1:=hst.f1
         have c1:=hst.c1
         have f2:=hst.f2
         have c2:=hst.c2
         have hci:(c:Int) < (nx:Int):=by omega
         have hii:(i:Int) < (n:Int):=by omega
         have hmi:(m:Int) < (n:Int):=by omega
         have X7:=X.grown hgr hKo
         have HCL:=HG.out.clean
         have HQ7:=Lib.hid (HCL.keptC (v:=.slice (some ⟨K7,0,none⟩) n n) hgr HQC.out (fun b hb e => by simp only [Value.ownBlock,Option.some.injEq,Addr.mk.injEq,and_true] at hb e; omega))
         have HG7:=Lib.hid hO7
         have hli:c < l.length:=by omega
         obtain ⟨q,q1,_,_⟩:=get_lt (xs:=l) (k:=c) hli
         obtain ⟨lb',s6,ao6,l6,c6,bo6,m6,d6,hlb',g0,g1,g2,hq6⟩:=HQ7.out c q q1.out
         simp only [Option.some.injEq,Addr.mk.injEq,and_true] at hlb'
         subst hlb'
         obtain ⟨s4,ao4,l4,c4,bo4,m4,d4,b0,b1,b2,hq4⟩:=HG7.out.at (i:=i) (q:=r i) (by rw [List.getElem?_set_ne (by omega)]; exact rchL_get (by omega) (hT.done_self (by omega) c))
         have HM1:=Lib.hid (fun (u v:Value) W hu hv => qMul_any u v (r i) q W hu hv (HB.out i (by omega)) (HOB.out q (List.mem_of_getElem? q1.out)))
         have HRM:Hid (r i * q=r m):=by show _=_; rw [hm3,HFL.out c,q1.out]; rfl
         have HST:=Lib.hid hm4
         have HQ4:=Lib.hid hq4
         have HQ6:=Lib.hid hq6
         have HX7:=Lib.hid X7
         have hcl:(c:Int) < (l.length:Int):=by omega
         generalize r i=ri at *
         generalize r m=rm at *
         clear hst hput hO7 hgr hq5 hm3 hm4 hlc k1 X X7 HCL hq4 hq6 q1
         go_wp2_with fail
         clear e0 e1 e2 f0 c0 f1 c1 f2 c2 h7 hk0
         go_region_law (first
          | (go_simp; go_at_call 74; refine (HM1.out _ _ _ (by exact HQ4.out.ext (Ext.refl w7).drew) (by exact HQ6.out.ext (Ext.refl w7).drew)).mono ?_; rintro e wa ⟨ua,rfl,ha,Ya⟩; obtain ⟨s9,ao9,l9,c9,bo9,m9,d9,rfl,_,_,_⟩:=ha.opn; have Xa:Ext w7 wa:=(Ext.refl w7).drew.trans Ya; have HGa:=Lib.hid (HG7.out.ext Xa); have HQa:=Lib.hid (HQ7.out.ext Xa); obtain ⟨x3,y3,z3,hst3,hput3⟩:=HGa.out.stored (i:=m) (by rw [List.length_set,hlg]; omega); have f0:=hst3.f0; have c0:=hst3.c0; have f1:=hst3.f1; have c1:=hst3.c1; have f2:=hst3.f2; have c2:=hst3.c2; have HV:=Lib.hid ha; have HPUT:=Lib.hid hput3; clear ha hst3 hput3))
         all_goals
          obtain ⟨w8,h8,hgr8,hO8⟩:=HPUT.out _ _ _ _ _ _ _ _ HV.out
          have HCL:=HGa.out.clean
          have HQ8:=Lib.hid (HCL.keptC (v:=.slice (some ⟨K7,0,none⟩) n n) hgr8 HQa.out (fun b hb e => by simp only [Value.ownBlock,Option.some.injEq,Addr.mk.injEq,and_true] at hb e; omega))
          have HX8:=Lib.hid ((HX7.out.trans Xa).grown hgr8 hKo)
          rw [List.set_set,HRM.out,HST.out] at hO8
          have HP:=Lib.hid hO8
          rw [h8]
          clear f0 c0 f1 c1 f2 c2 b0 b1 b2 g0 g1 g2 HCL hO8 hgr8 h8 HPUT
          go_wp2_with fail
          go_roundw
          case rel => exact ⟨c + 1,by omega,by go_num,HP,HQ8,HX8.out⟩
          case measure => simp [intOf] <;> omega
       · have hce:c=nx:=by omega
         subst hce
         have HP:Hid (QsG wr K7 (.slice (some ⟨K7,0,none⟩) n n) (rchL T r (i + 1) 0)):=by
          show QsG _ _ _ _
          rw [← rchL_next HTX.out,HNL.out]; exact HG.out
         clear hlc HG
         go_wp2_with fail
         go_roundw
         case rel => exact ⟨i + 1,by omega,by go_num,HP,X⟩
         case measure => simp [intOf] <;> omega
    · have HCH:=Lib.hid (HCHA.out (.inl hNE))
      obtain ⟨hnp,_,_⟩:=nextE_zero hNE
      obtain ⟨u,hu,hcl⟩:=HPI.out k0
      unfold ndV at hcl
      rw [k0,HNL.out,HOL.out,HV1.out,HV2.out,HV3.out] at hcl
      rw [k0] at p0 hoL
      rw [HNL.out] at hu
      have hoL:oddsL T O i=O i:=hoL
      have HCALL:=Lib.hid (fun W no nc oo oc (hX:Ext wo W) => hcl W no nc oo oc hX)
      cases hOi:O i with
      | none =>
        rw [hOi] at hu hoL
        obtain rfl:u=.slice none 0 0:=hu
        have HFL:Hid (∀ c,facL (oddsL T O i) c=1):=fun c => by rw [hoL]; rfl
        clear k0 hoL HNODE HCHA HPI HOI HOX HOC HV1 HV2 HV3 hON hNE hnp hcl hOi HOL
        obtain ⟨T7,hT7⟩:∃ T7,wq.heap.size=T7:=⟨_,rfl⟩
        obtain ⟨W5,hW5⟩:∃ W5,wq.alloc (.cells #[.int .i64 2,.int .i64 px,.int .i64 qx,.slice no nx nc,.slice oo ox oc,.string yx] 79)=W5:=⟨_,rfl⟩
        have X5:Ext wq W5:=by rw [← hW5]; exact (Ext.refl wq).alloc _
        have y0:W5.cell? ⟨T7,0,none⟩=some (.int .i64 2):=by rw [← hW5,← hT7]; simp [go_sem]
        have y1:W5.cell? ⟨T7,1,none⟩=some (.int .i64 px):=by rw [← hW5,← hT7]; simp [go_sem]
        have y2:W5.cell? ⟨T7,2,none⟩=some (.int .i64 qx):=by rw [← hW5,← hT7]; simp [go_sem]
        have y3:W5.cell? ⟨T7,3,none⟩=some (.slice no nx nc):=by rw [← hW5,← hT7]; simp [go_sem]
        have y4:W5.cell? ⟨T7,4,none⟩=some (.slice oo ox oc):=by rw [← hW5,← hT7]; simp [go_sem]
        have y5:W5.cell? ⟨T7,5,none⟩=some (.string yx):=by rw [← hW5,← hT7]; simp [go_sem]
        have HG5:=Lib.hid (HG.out.ext X5)
        have HX5:=Lib.hid (X.trans X5)
        clear HG X X5
        go_wp2_with fail
        clear hT7 hW5 p0 p1 p2 p3 p4 p5
        refine (HCALL.out _ _ _ _ _ HX5.out).mono ?_
        rintro e w6 ⟨rfl,X6⟩
        have HGI:=Lib.hid (HG5.out.ext X6)
        have HXI:=Lib.hid (HX5.out.trans X6)
        have y3:=X6.cell y3
        clear X6 y0 y1 y2 y4 y5 HG5 HX5
        go_wp2_with fail
        go_loopw [39] (fun iv wr => ∃ (c:Nat),c ≤ nx ∧ iv=.int .i64 c ∧ Hid (QsG wr K7 (.slice (some ⟨K7,0,none⟩) n n) (rchL T r i c)) ∧ Ext wo wr) (fun iv _ => nx - (intOf iv).toNat)
        case atStart => exact ⟨0,Nat.zero_le _,rfl,HGI,HXI.out⟩
        case round =>
         clear HGI HXI
         obtain ⟨c,hc,rfl,HG,X⟩:=hrel
         by_cases hlc:c < nx
         · obtain ⟨k,k1,_,_⟩:=get_lt (xs:=x.next) (k:=c) (by rw [HNL.out]; exact hlc)
           obtain ⟨m,rfl,hm1,hm2,hm3,hm4⟩:=HCH.out c k k1.out
           obtain ⟨nb,noff,rfl,hk0⟩:=(HNC.out.ext X).at k1
           have hk0:wr.cell? ⟨nb,noff + c,none⟩=some (.int .i64 (m:Int)):=hk0
           have hlg:=(rchL_len T r i c).trans HNN.out
           have hnn:=HNN.out
           have hnx6:(nx:Int) ≤ 6:=by have:=HN6.out; omega
           obtain ⟨s5,ao5,l5,c5,bo5,m5,d5,e0,e1,e2,hq5⟩:=HG.out.at (rchL_get (by omega) (hT.done_self (by omega) c))
           obtain ⟨x9,y9,z9,hst,hput⟩:=HG.out.stored (i:=m) (by rw [hlg]; omega)
           obtain ⟨w7,h7,hgr,hO7⟩:=hput _ _ _ _ _ _ _ _ hq5
           have f0:=hst.f0
           have c0:=hst.c0
           have f1:=hst.f1
           have c1:=hst.c1
           have f2:=hst.f2
           have c2:=hst.c2
           have hci:(c:Int) < (nx:Int):=by omega
           have hii:(i:Int) < (n:Int):=by omega
           have hmi:(m:Int) < (n:Int):=by omega
           have X7:=X.grown hgr hKo
           have HP:=hO7
           rw [show r i=r m by rw [hm3,HFL.out c,Rat.mul_one],hm4] at HP
           have HP:=Lib.hid HP
           have HX7:=Lib.hid X7
           clear hst hput hO7 hgr hq5 hm3 hm4 hlc k1 X X7 hlg
           go_wp2_with fail
           go_roundw
           case rel => exact ⟨c + 1,by omega,by go_num,HP,HX7.out⟩
           case measure => simp [intOf] <;> omega
         · have hce:c=nx:=by omega
           subst hce
           have HP:Hid (QsG wr K7 (.slice (some ⟨K7,0,none⟩) n n) (rchL T r (i + 1) 0)):=by
            show QsG _ _ _ _
            rw [← rchL_next HTX.out,HNL.out]; exact HG.out
           clear hlc HG
           go_wp2_with fail
           go_roundw
           case rel => exact ⟨i + 1,by omega,by go_num,HP,X⟩
           case measure => simp [intOf] <;> omega
      | some l =>
        rw [hOi] at hu hoL
        obtain ⟨hu,hlx⟩:QsV wo u l ∧ l.length=nx:=hu
        have HOB:=Lib.hid (HOI.out l hoL)
        have HFL:Hid (∀ c,facL (oddsL T O i) c=(l[c]?).getD 1):=fun c => by rw [hoL]; rfl
        have hol0:0 < l.length:=by have:=HNL.out; omega
        obtain ⟨lo,lc,rfl,_,hqc⟩:=hu.opn
        obtain ⟨q0,q01,_,_⟩:=get_lt hol0
        obtain ⟨lb,_,_,_,_,_,_,_,rfl,_⟩:=hqc 0 q0 q01.out
        have hlbK:lb < K7:=by have:=hqc.lt lb rfl (by intro e; rw [e] at hol0; cases hol0); omega
        have HQC0:=Lib.hid hqc
        clear k0 hoL HNODE HCHA HPI HOI HOX HOC HV1 HV2 HV3 hON hNE hnp hcl hOi HOL hu hqc q01
        obtain ⟨T7,hT7⟩:∃ T7,wq.heap.size=T7:=⟨_,rfl⟩
        obtain ⟨W5,hW5⟩:∃ W5,wq.alloc (.cells #[.int .i64 2,.int .i64 px,.int .i64 qx,.slice no nx nc,.slice oo ox oc,.string yx] 79)=W5:=⟨_,rfl⟩
        have X5:Ext wq W5:=by rw [← hW5]; exact (Ext.refl wq).alloc _
        have y0:W5.cell? ⟨T7,0,none⟩=some (.int .i64 2):=by rw [← hW5,← hT7]; simp [go_sem]
        have y1:W5.cell? ⟨T7,1,none⟩=some (.int .i64 px):=by rw [← hW5,← hT7]; simp [go_sem]
        have y2:W5.cell? ⟨T7,2,none⟩=some (.int .i64 qx):=by rw [← hW5,← hT7]; simp [go_sem]
        have y3:W5.cell? ⟨T7,3,none⟩=some (.slice no nx nc):=by rw [← hW5,← hT7]; simp [go_sem]
        have y4:W5.cell? ⟨T7,4,none⟩=some (.slice oo ox oc):=by rw [← hW5,← hT7]; simp [go_sem]
        have y5:W5.cell? ⟨T7,5,none⟩=some (.string yx):=by rw [← hW5,← hT7]; simp [go_sem]
        have HG5:=Lib.hid (HG.out.ext X5)
        have HX5:=Lib.hid (X.trans X5)
        clear HG X X5
        go_wp2_with fail
        clear hT7 hW5 p0 p1 p2 p3 p4 p5
        refine (HCALL.out _ _ _ _ _ HX5.out).mono ?_
        rintro e w6 ⟨rfl,X6⟩
        have HQI:=Lib.hid (HQC0.out.ext (HX5.out.trans X6))
        have HGI:=Lib.hid (HG5.out.ext X6)
        have HXI:=Lib.hid (HX5.out.trans X6)
        have y3:=X6.cell y3
        clear X6 y0 y1 y2 y4 y5 HG5 HX5
        go_wp2_with fail
        go_loopw [39] (fun iv wr => ∃ (c:Nat),c ≤ nx ∧ iv=.int .i64 c ∧ Hid (QsG wr K7 (.slice (some ⟨K7,0,none⟩) n n) (rchL T r i c)) ∧ Hid (QCells wr (some ⟨lb,0,none⟩) l) ∧ Ext wo wr) (fun iv _ => nx - (intOf iv).toNat)
        case atStart => exact ⟨0,Nat.zero_le _,rfl,HGI,HQI,HXI.out⟩
        case round =>
         clear HGI HXI HQI
         obtain ⟨c,hc,rfl,HG,HQC,X⟩:=hrel
         by_cases hlc:c < nx
         · obtain ⟨k,k1,_,_⟩:=get_lt (xs:=x.next) (k:=c) (by rw [HNL.out]; exact hlc)
           obtain ⟨m,rfl,hm1,hm2,hm3,hm4⟩:=HCH.out c k k1.out
           obtain ⟨nb,noff,rfl,hk0⟩:=(HNC.out.ext X).at k1
           have hk0:wr.cell? ⟨nb,noff + c,none⟩=some (.int .i64 (m:Int)):=hk0
           have hlg:=(rchL_len T r i c).trans HNN.out
           have hnn:=HNN.out
           have hnx6:(nx:Int) ≤ 6:=by have:=HN6.out; omega
           obtain ⟨s5,ao5,l5,c5,bo5,m5,d5,e0,e1,e2,hq5⟩:=HG.out.at (rchL_get (by omega) (hT.done_self (by omega) c))
           obtain ⟨x9,y9,z9,hst,hput⟩:=HG.out.stored (i:=m) (by rw [hlg]; omega)
           obtain ⟨w7,h7,hgr,hO7⟩:=hput _ _ _ _ _ _ _ _ hq5
           have f0:=hst.f0
           have c0:=hst.c0
           have f1:=hst.f1
           have c1:=hst.c1
           have f2:=hst.f2
           have c2:=hst.c2
           have hci:(c:Int) < (nx:Int):=by omega
           have hii:(i:Int) < (n:Int):=by omega
           have hmi:(m:Int) < (n:Int):=by omega
           have X7:=X.grown hgr hKo
           have HCL:=HG.out.clean
           have HQ7:=Lib.hid (HCL.keptC (v:=.slice (some ⟨K7,0,none⟩) n n) hgr HQC.out (fun b hb e => by simp only [Value.ownBlock,Option.some.injEq,Addr.mk.injEq,and_true] at hb e; omega))
           have HG7:=Lib.hid hO7
           have hli:c < l.length:=by omega
           obtain ⟨q,q1,_,_⟩:=get_lt (xs:=l) (k:=c) hli
           obtain ⟨lb',s6,ao6,l6,c6,bo6,m6,d6,hlb',g0,g1,g2,hq6⟩:=HQ7.out c q q1.out
           simp only [Option.some.injEq,Addr.mk.injEq,and_true] at hlb'
           subst hlb'
           obtain ⟨s4,ao4,l4,c4,bo4,m4,d4,b0,b1,b2,hq4⟩:=HG7.out.at (i:=i) (q:=r i) (by rw [List.getElem?_set_ne (by omega)]; exact rchL_get (by omega) (hT.done_self (by omega) c))
           have HM1:=Lib.hid (fun (u v:Value) W hu hv => qMul_any u v (r i) q W hu hv (HB.out i (by omega)) (HOB.out q (List.mem_of_getElem? q1.out)))
           have HRM:Hid (r i * q=r m):=by show _=_; rw [hm3,HFL.out c,q1.out]; rfl
           have HST:=Lib.hid hm4
           have HQ4:=Lib.hid hq4
           have HQ6:=Lib.hid hq6
           have HX7:=Lib.hid X7
           have hcl:(c:Int) < (l.length:Int):=by omega
           generalize r i=ri at *
           generalize r m=rm at *
           clear hst hput hO7 hgr hq5 hm3 hm4 hlc k1 X X7 HCL hq4 hq6 q1
           go_wp2_with fail
           clear e0 e1 e2 f0 c0 f1 c1 f2 c2 h7 hk0
           go_region_law (first
            | (go_simp; go_at_call 74; refine (HM1.out _ _ _ (by exact HQ4.out.ext (Ext.refl w7).drew) (by exact HQ6.out.ext (Ext.refl w7).drew)).mono ?_; rintro e wa ⟨ua,rfl,ha,Ya⟩; obtain ⟨s9,ao9,l9,c9,bo9,m9,d9,rfl,_,_,_⟩:=ha.opn; have Xa:Ext w7 wa:=(Ext.refl w7).drew.trans Ya; have HGa:=Lib.hid (HG7.out.ext Xa); have HQa:=Lib.hid (HQ7.out.ext Xa); obtain ⟨x3,y3,z3,hst3,hput3⟩:=HGa.out.stored (i:=m) (by rw [List.length_set,hlg]; omega); have f0:=hst3.f0; have c0:=hst3.c0; have f1:=hst3.f1; have c1:=hst3.c1; have f2:=hst3.f2; have c2:=hst3.c2; have HV:=Lib.hid ha; have HPUT:=Lib.hid hput3; clear ha hst3 hput3))
           all_goals
            obtain ⟨w8,h8,hgr8,hO8⟩:=HPUT.out _ _ _ _ _ _ _ _ HV.out
            have HCL:=HGa.out.clean
            have HQ8:=Lib.hid (HCL.keptC (v:=.slice (some ⟨K7,0,none⟩) n n) hgr8 HQa.out (fun b hb e => by simp only [Value.ownBlock,Option.some.injEq,Addr.mk.injEq,and_true] at hb e; omega))
            have HX8:=Lib.hid ((HX7.out.trans Xa).grown hgr8 hKo)
            rw [List.set_set,HRM.out,HST.out] at hO8
            have HP:=Lib.hid hO8
            rw [h8]
            clear f0 c0 f1 c1 f2 c2 b0 b1 b2 g0 g1 g2 HCL hO8 hgr8 h8 HPUT
            go_wp2_with fail
            go_roundw
            case rel => exact ⟨c + 1,by omega,by go_num,HP,HQ8,HX8.out⟩
            case measure => simp [intOf] <;> omega
         · have hce:c=nx:=by omega
           subst hce
           have HP:Hid (QsG wr K7 (.slice (some ⟨K7,0,none⟩) n n) (rchL T r (i + 1) 0)):=by
            show QsG _ _ _ _
            rw [← rchL_next HTX.out,HNL.out]; exact HG.out
           clear hlc HG
           go_wp2_with fail
           go_roundw
           case rel => exact ⟨i + 1,by omega,by go_num,HP,X⟩
           case measure => simp [intOf] <;> omega
  · have hie:i=n:=by omega
    subst hie
    have HF:=HG.out
    rw [HEND.out] at HF
    have HF:=Lib.hid HF.full
    have hge:¬ (i:Int) < (i:Int):=by omega
    clear HG hlt
    go_wp2_with fail
    go_ret
    exact ⟨_,rfl,HF.out,X⟩
def isEnd (T:List Nd) (k:Nat):Bool:=match T[k]? with
 | none => false
 | some x => decide (x.kind=0)
def endsK (T:List Nd) (i:Nat):List Nat:=(List.range i).filter fun k => isEnd T k
def endsL (T:List Nd):List Nat:=endsK T T.length
def intsN (l:List Nat):List Int:=l.map fun n:Nat => (n:Int)
theorem endsK_succ {T:List Nd} {i:Nat} {x:Nd} (hx:T[i]?=some x):endsK T (i + 1)=endsK T i ++ if x.kind=0 then [i] else []:=by
 have e:isEnd T i=decide (x.kind=0):=by unfold isEnd; rw [hx]
 unfold endsK
 rw [List.range_succ,List.filter_append]
 congr 1
 by_cases h:x.kind=0
 · rw [if_pos h,List.filter_cons_of_pos (by rw [e]; exact decide_eq_true h)]; rfl
 · rw [if_neg h,List.filter_cons_of_neg (by rw [e]; simpa using h)]; rfl
theorem endsK_le (T:List Nd) (i:Nat):(endsK T i).length ≤ i:=by
 unfold endsK
 have:=List.length_filter_le (fun k => isEnd T k) (List.range i)
 rwa [List.length_range] at this
theorem endsL_lt {T:List Nd} {k:Nat} (h:k ∈ endsL T):k < T.length:=List.mem_range.1 (List.mem_filter.1 h).1
theorem from_parent {T:List Nd} (hT:Valid T) {k:Nat} (hk:k < T.length) (h0:k ≠ 0):∃ (i c:Nat) (x:Nd),T[i]?=some x ∧ x.next[c]?=some (k:Int) ∧ i < k:=by
 rcases hT.done_all hk with h | ⟨a,d,x,h1,h2,_⟩
 · exact absurd h h0
 · refine ⟨a,d,x,h1,h2,?_⟩
   have hm:=List.mem_of_getElem? h2
   rcases hT.node a x h1 with ⟨_,_,_,hN,_⟩ | ⟨_,_,_,_,_,_,hNE⟩ | ⟨_,_,_,_,_,_,hNE⟩
   · rw [hN] at hm; cases hm
   · have:=((nextE_zero hNE).2.2 _ hm).1; omega
   · have:=((nextE_zero hNE).2.2 _ hm).1; omega
theorem odds_ok {T:List Nd} (hT:Valid T) {i:Nat} {x:Nd} (hx:T[i]?=some x):∀ s ∈ x.odds,RatOk s:=by
 rcases hT.node i x hx with ⟨_,_,_,_,hO,_⟩ | ⟨_,_,_,_,_,hOE,_⟩ | ⟨_,hO,_⟩
 · rw [hO]; intro s hs; cases hs
 · exact oddsE_ok hOE
 · rw [hO]; intro s hs; cases hs
theorem RB_1:RB 1 1:=⟨by decide,by decide⟩
set_option maxHeartbeats 3200000 in
set_option maxRecDepth 100000 in
theorem list_any (v:Value) (T:List Nd) (w:World) (hv:TreeIn w v T) :
 Calls Tryz.prog 92 #[v] w fun e w' => ∃ u,e=.returned u ∧ Ints w' u (intsN (endsL T)) ∧ Ext w w':=by
 obtain ⟨wo,rfl⟩:∃ wo:World,wo=w:=⟨_,rfl⟩
 obtain ⟨ao,c,rfl,hlen,hn⟩:=hv.open
 have HN:=Lib.hid hn
 clear hn hv
 go_enter Tryz.func92,Tryz.ntmps92
 go_wp2_with fail
 go_loopw [3,8] (fun ov iv wr => ∃ (i:Nat),i ≤ T.length ∧ iv=.int .i64 i ∧ Hid (wr.ownsRow wo.heap.size 3 1 ov (endsK T i).length ((intsN (endsK T i)).map (Value.int .i64))) ∧ Ext wo wr) (fun _ iv _ => T.length - (intOf iv).toNat)
 case atStart => exact ⟨0,Nat.zero_le _,rfl,World.ownsRow_nil _ _ _ _,Ext.refl _⟩
 case round =>
  obtain ⟨i,hi,rfl,HO,X⟩:=hrel
  by_cases hlt:i < T.length
  · obtain ⟨x,d1,d2,d3⟩:=get_lt hlt
    obtain ⟨b,off,no,nc,oo,oc,rfl,c0,c1,c2,c3,c4,c5,_,_,_⟩:=HN.out.at d1
    have c0:=X.cell c0
    have c1:=X.cell c1
    have c2:=X.cell c2
    have c3:=X.cell c3
    have c4:=X.cell c4
    have c5:=X.cell c5
    have hii:(i:Int) < (T.length:Int):=by omega
    have hes:=endsK_succ d1.out
    have hle:=endsK_le T i
    obtain ⟨E,hE⟩:∃ E,endsK T i=E:=⟨_,rfl⟩
    obtain ⟨kx,hkx⟩:∃ kx,x.kind=kx:=⟨_,rfl⟩
    obtain ⟨px,hpx⟩:∃ px,x.player=px:=⟨_,rfl⟩
    obtain ⟨qx,hqx⟩:∃ qx,x.info=qx:=⟨_,rfl⟩
    obtain ⟨nx,hnx⟩:∃ nx,x.next.length=nx:=⟨_,rfl⟩
    obtain ⟨ox,hox⟩:∃ ox,x.odds.length=ox:=⟨_,rfl⟩
    obtain ⟨yx,hyx⟩:∃ yx,x.pay=yx:=⟨_,rfl⟩
    rw [hkx] at c0 hes
    rw [hpx] at c1
    rw [hqx] at c2
    rw [hnx] at c3
    rw [hox] at c4
    rw [hyx] at c5
    rw [hE] at HO hes hle
    obtain ⟨T7,hT7⟩:∃ T7,wr.heap.size=T7:=⟨_,rfl⟩
    obtain ⟨W1,hW1⟩:∃ W1,wr.alloc (.cells #[.int .i64 kx,.int .i64 px,.int .i64 qx,.slice no nx nc,.slice oo ox oc,.string yx] 79)=W1:=⟨_,rfl⟩
    have X1:Ext wr W1:=by rw [← hW1]; exact (Ext.refl wr).alloc _
    have y0:W1.cell? ⟨T7,0,none⟩=some (.int .i64 kx):=by rw [← hW1,← hT7]; simp [go_sem]
    have HX1:=Lib.hid (X.trans X1)
    have HO1:=Lib.hid (own_ext HO.out X1)
    have hbk:wo.heap.size ≤ W1.heap.size:=HX1.out.size
    clear hkx hpx hqx hnx hox hyx X1 hE HO d1 d2 d3 hlt X
    by_cases a1:kx=0
    · subst a1
      rw [if_pos rfl] at hes
      have HS:=Lib.hid hes
      obtain ⟨K,hK⟩:∃ K,E.length=K:=⟨_,rfl⟩
      have HK:=Lib.hid hK
      rw [hK] at HO1 hle
      have hl1:K + 1 ≤ 17592186044416:=by omega
      have hl2:(K + 1) * 8 ≤ 140737488355328:=by omega
      clear hes hK
      go_wp2_with (first | (at_builtin; go_must (refine wp_app1 rfl rfl ei_ints HO1.out rfl rfl (by simp) rfl hl1 hl2 (by simpa using hbk) ?_); intro v' w' hown hgrew))
      go_roundw
      case rel =>
       refine ⟨i + 1,by omega,by go_num,?_,hgrew.extNew HX1.out HO1.out (Nat.le_refl _)⟩
       show World.ownsRow _ _ _ _ _ _ _
       rw [HS.out,List.length_append,List.length_singleton,HK.out]
       unfold intsN
       rw [List.map_append,List.map_append]
       exact hown
      case measure => simp [intOf]; omega
    · rw [if_neg a1,List.append_nil] at hes
      have HS:=Lib.hid hes
      have hb1:(kx == 0)=false:=by rw [beq_eq_false_iff_ne]; exact a1
      clear hes
      go_wp2_with fail
      go_roundw
      case rel => exact ⟨i + 1,by omega,by go_num,by rw [HS.out]; exact HO1.out,HX1.out⟩
      case measure => simp [intOf]; omega
  · have hie:i=T.length:=by omega
    subst hie
    have hle:=endsK_le T T.length
    have HR:=Lib.hid (own_rowOf HO.out (by omega))
    have hge:¬ (T.length:Int) < (T.length:Int):=by omega
    clear hlt
    go_wp2_with fail
    go_ret
    exact ⟨_,rfl,HR.out,X⟩
end Go.Proofs.YtcggohkbmhdohaaGreatDoor
