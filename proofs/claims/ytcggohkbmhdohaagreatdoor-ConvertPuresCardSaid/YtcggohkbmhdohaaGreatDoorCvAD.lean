/- texts merged: CvA CvB CvC CvD -/
import Derived.Test.YtcggohkbmhdohaaGreatDoorRpTV
import Derived.Test.YtcggohkbmhdohaaGreatDoorShelf
namespace Go.Proofs.YtcggohkbmhdohaaGreatDoor
open Go.RowKit
set_option linter.unusedVariables false
def AllPost (ws:List Nat) (u:Value) (w w':World):Prop:=Ext w w' ∧ ((fewB 128 ws=false ∧ u=.tuple #[.slice none 0 0,.bool false]) ∨
 (fewB 128 ws=true ∧ ∃ a,u=.tuple #[a,.bool true] ∧ Rows (Value.int .i64) w' a (pursL ws (prodL ws))))
theorem stepAll_take {out:List (List Nat)} {n j:Nat} {l:List Nat} (h:out[j]?=some l):stepAll (out.take (j + 1)) n=stepAll (out.take j) n ++ (List.range n).map fun k => l ++ [k]:=by
 obtain ⟨h1,h2⟩:=List.getElem?_eq_some_iff.1 h
 unfold stepAll
 rw [List.take_succ_eq_append_getElem h1,h2,List.flatMap_append]
 simp
def partA (out:List (List Nat)) (n j k:Nat) (l:List Nat):List (List Int):=(stepAll (out.take j) n ++ (List.range k).map fun c => l ++ [c]).map intsN
theorem partA_succ (out:List (List Nat)) (n j k:Nat) (l:List Nat):partA out n j (k + 1) l=partA out n j k l ++ [intsN (l ++ [k])]:=by
 unfold partA
 simp [List.range_succ]
theorem partA_next {out:List (List Nat)} {n j:Nat} {l:List Nat} (h:out[j]?=some l) (l2:List Nat):partA out n j n l=partA out n (j + 1) 0 l2:=by
 unfold partA
 rw [stepAll_take h]
 simp
theorem partA_any (out:List (List Nat)) (n j:Nat) (l l2:List Nat):partA out n j 0 l=partA out n j 0 l2:=rfl
theorem partA_all (out:List (List Nat)) (n:Nat) (l:List Nat):partA out n out.length 0 l=(stepAll out n).map intsN:=by
 unfold partA
 rw [List.take_length]
 simp
theorem allL_rows {ws:List Nat} (hp:∀ w ∈ ws,0 < w):(allL ws).map intsN=pursL ws (prodL ws):=by
 rw [allL_pure hp,List.map_map]
 rfl
theorem intsN_app (l:List Nat) (k:Nat):intsN (l ++ [k])=intsN l ++ [(k:Int)]:=by unfold intsN; rw [List.map_append]; rfl
theorem take_pos {ws:List Nat} (hp:∀ w ∈ ws,0 < w) (i:Nat):∀ w ∈ ws.take i,0 < w:=fun w hw => hp w (List.mem_of_mem_take hw)
set_option maxHeartbeats 6400000 in
set_option maxRecDepth 100000 in
theorem cvAll_any (v:Value) (ws:List Nat) (w:World) (hv:Ints w v (intsN ws)) (hp:∀ x ∈ ws,0 < x ∧ x ≤ 6) (hl:ws.length ≤ 10) :
 Calls Tryz.prog 84 #[v] w fun e w' => ∃ u,e=.returned u ∧ AllPost ws u w w':=by
 have hp0:∀ x ∈ ws,0 < x:=fun x hx => (hp x hx).1
 obtain ⟨vo,vc,rfl,_,hA⟩:=hv.open
 have hvl:(intsN ws).length=ws.length:=by unfold intsN; rw [List.length_map]
 rw [hvl]
 have HA:=Lib.hid hA
 have HP:=Lib.hid hp
 have HP0:=Lib.hid hp0
 obtain ⟨n,hn⟩:∃ n,ws.length=n:=⟨_,rfl⟩
 have HN:=Lib.hid hn
 rw [hn] at hl ⊢
 clear hv hA hvl hp hp0 hn
 go_enter Tryz.func84,Tryz.ntmps84
 go_wp2_with fail
 obtain ⟨K0,hK0⟩:∃ K0,w.heap.size=K0:=⟨_,rfl⟩
 have HX1:Hid (Ext w ((w.alloc (.cells #[] 3)).alloc (.cells #[.slice (some ⟨w.heap.size,0,none⟩) 0 0] 51))):=((Ext.refl w).alloc _).alloc _
 have HR1:Hid (RO ((w.alloc (.cells #[] 3)).alloc (.cells #[.slice (some ⟨w.heap.size,0,none⟩) 0 0] 51)) w.heap.size (.slice (some ⟨w.heap.size + 1,0,none⟩) 1 1) [([],.slice (some ⟨w.heap.size,0,none⟩) 0 0)]):=by
  refine ⟨?_,fun q hq => ?_⟩
  · have h:=own_lit1 (w.alloc (.cells #[] 3)) (.slice (some ⟨w.heap.size,0,none⟩) 0 0) 51
    rw [World.size_alloc] at h
    exact own_mono h (Nat.le_succ _)
  · rw [List.mem_singleton.1 hq]
    exact ⟨⟨some ⟨w.heap.size,0,none⟩,0,rfl,⟨(fun e => by cases e),Nat.le_refl _⟩,(by simp),(by simp),fun j p hp => by simp at hp⟩,.inl rfl⟩
 clear hK0
 obtain ⟨W1,hW1⟩:∃ W1,(w.alloc (.cells #[] 3)).alloc (.cells #[.slice (some ⟨w.heap.size,0,none⟩) 0 0] 51)=W1:=⟨_,rfl⟩
 rw [hW1] at HX1 HR1 ⊢
 clear hW1
 obtain ⟨B0,hB0⟩:∃ B0,w.heap.size=B0:=⟨_,rfl⟩
 have HB0:=Lib.hid hB0
 rw [hB0] at HR1 ⊢
 clear hB0
 go_loopw [4,15] (fun ov iv wr => ∃ (i m:Nat) (L:List (List Int × Value)),i ≤ n ∧ iv=.int .i64 i ∧ Hid (L.map (·.1)=(allL (ws.take i)).map intsN) ∧ Hid (L.length=m) ∧ Hid ((allL (ws.take i)).length=m) ∧ m ≤ 128 ∧ Hid (RO wr B0 ov L) ∧ Ext w wr) (fun _ iv _ => n - (intOf iv).toNat)
 case atStart => exact ⟨0,1,[([],.slice (some ⟨B0,0,none⟩) 0 0)],Nat.zero_le _,rfl,by show _=_; rw [List.take_zero]; rfl,rfl,by show _=_; rw [List.take_zero]; rfl,by omega,HR1,HX1.out⟩
 case round =>
  clear HR1 HX1
  obtain ⟨i,m,L,hi,rfl,HL,HLL,HAL,hm,HO,X⟩:=hrel
  obtain ⟨wq,rfl⟩:∃ wq:World,wq=wr:=⟨_,rfl⟩
  have hosh:∃ po pc,u4=.slice po m pc:=by
   rcases HO.out.row.2 with ⟨h1,h0⟩ | ⟨g,cap,cur,h1,_⟩
   · exact ⟨none,0,by rw [h1,← HLL.out,h0]⟩
   · exact ⟨_,_,by rw [h1,HLL.out]⟩
  obtain ⟨po,pc,rfl⟩:=hosh
  by_cases hlt:i < n
  · obtain ⟨x,x1,_,_⟩:=get_lt (xs:=ws) (k:=i) (by rw [HN.out]; exact hlt)
    obtain ⟨vb,voff,rfl,v0⟩:=(HA.out.ext X).at (i:=i) (x:=(x:Int)) (by show _=_; unfold intsN; rw [List.getElem?_map,x1.out]; rfl)
    have v0:wq.cell? ⟨vb,voff + i,none⟩=some (.int .i64 (x:Int)):=v0
    have hii:(i:Int) < (n:Int):=by omega
    obtain ⟨hx0,hx6⟩:=HP.out x (List.mem_of_getElem? x1.out)
    have hpt:=prodL_take_succ x1.out
    have hall:allL (ws.take (i + 1))=stepAll (allL (ws.take i)) x:=by
     obtain ⟨g1,g2⟩:=List.getElem?_eq_some_iff.1 x1.out
     rw [List.take_succ_eq_append_getElem g1,g2,allL_snoc]
    have hml:=HAL.out
    rw [allL_len (take_pos HP0.out i)] at hml
    rw [hml] at hpt
    obtain ⟨y,hy⟩:∃ y,m * x=y:=⟨_,rfl⟩
    rw [hy] at hpt
    have HY:=Lib.hid hy
    have hyb:y ≤ 768:=by rw [← hy]; exact Nat.le_trans (Nat.mul_le_mul hm hx6) (by omega)
    have e1:(m:Int) * (x:Int)=(y:Int):=by rw [← hy,Int.natCast_mul]
    have e2:IntKind.i64.wrap ((m:Int) * (x:Int))=(y:Int):=by rw [e1,IntKind.wrap_i64]; omega
    have HALL:=Lib.hid hall
    have HNL:Hid ((allL (ws.take (i + 1))).length=y):=by show _=_; rw [allL_len (take_pos HP0.out _),hpt]
    by_cases hg:128 < y
    · have hgi:(128:Int) < (y:Int):=by omega
      have HFW:Hid (fewB 128 ws=false):=few_take HP0.out (i + 1) (by rw [hpt]; exact hg)
      clear hg hlt x1 hpt hall hml hy
      go_wp2_with fail
      go_ret2
      refine ⟨_,rfl,?_⟩
      unfold AllPost
      exact ⟨X,.inl ⟨HFW.out,rfl⟩⟩
    · have hgi:¬ (128:Int) < (y:Int):=by omega
      have hy128:y ≤ 128:=by omega
      obtain ⟨A,hA2⟩:∃ A,allL (ws.take i)=A:=⟨_,rfl⟩
      rw [hA2] at HL HAL HALL
      have hus:=own_row HO.out.row (by rw [HLL.out]; omega)
      obtain ⟨ao',ac',hao,_,_,_,huc⟩:=hus
      simp only [Value.slice.injEq] at hao
      obtain ⟨rfl,hmm9,rfl⟩:=hao
      clear hmm9
      have HUC:=Lib.hid huc
      have HRD:Hid (∀ (j:Nat) (l:List Nat),A[j]?=some l → ∃ u,(L.map (·.2))[j]?=some u ∧ Ints wq u (intsN l)):=fun j l hj => by
       have h1:(L.map (·.1))[j]?=some (intsN l):=by rw [HL.out,List.getElem?_map,hj]; rfl
       rw [List.getElem?_map] at h1
       obtain ⟨q,hq,hq2⟩:=Option.map_eq_some_iff.1 h1
       refine ⟨q.2,by rw [List.getElem?_map,hq]; rfl,?_⟩
       have:=(HO.out.rd q (List.mem_of_getElem? hq)).1
       rw [hq2] at this
       exact this
      have HXW:=Lib.hid X
      have HA10:Hid (∀ (j:Nat) (l:List Nat),A[j]?=some l → l.length ≤ 10):=fun j l hj => by
       rw [← hA2,allL_pure (take_pos HP0.out i),List.getElem?_map] at hj
       obtain ⟨q,_,rfl⟩:=Option.map_eq_some_iff.1 hj
       rw [pureN_len,List.length_take]
       omega
      clear hg hlt x1 hpt hall hml hy hA2 huc HO HL HLL
      go_wp2_with fail
      clear v0
      go_loopw [7,26] (fun nv jv wr => ∃ (j:Nat) (L2:List (List Int × Value)),j ≤ m ∧ jv=.int .i64 j ∧ Hid (L2.map (·.1)=partA A x j 0 []) ∧ Hid (L2.length=j * x) ∧ Hid (RO wr wq.heap.size nv L2) ∧ Ext wq wr) (fun _ jv _ => m - (intOf jv).toNat)
      case atStart => exact ⟨0,[],Nat.zero_le _,rfl,rfl,by show _=_; rw [Nat.zero_mul]; rfl,RO.nil _ _,Ext.refl _⟩
      case round =>
       obtain ⟨j,L2,hj,rfl,HL2,HLL2,HO2,X2⟩:=hrel
       by_cases hlt2:j < m
       · obtain ⟨l,l1,_,_⟩:=get_lt (xs:=A) (k:=j) (by rw [HAL.out]; exact hlt2)
         obtain ⟨u,hu,hui⟩:=HRD.out j l l1.out
         obtain ⟨ub,uoff,hub,u0⟩:=HUC.out j u hu
         subst hub
         have u0:=X2.cell u0
         obtain ⟨lo,lc,rfl,_,_⟩:=hui.open
         obtain ⟨ln,hln⟩:∃ ln,(intsN l).length=ln:=⟨_,rfl⟩
         have HUI:Hid (Ints wq (.slice lo (intsN l).length lc) (intsN l)):=hui
         rw [hln] at HUI u0
         have HLN:=Lib.hid hln
         have HLB:Hid (ln ≤ 1000000):=by show _ ≤ _; have h9:=HA10.out j l l1.out; rw [← hln]; unfold intsN; rw [List.length_map]; omega
         have hjj:(j:Int) < (m:Int):=by omega
         have hjx:j * x + x ≤ 128:=by
          have h1:=HY.out
          have h2:(j + 1) * x ≤ m * x:=Nat.mul_le_mul_right _ hlt2
          rw [Nat.succ_mul] at h2
          omega
         have HPN:=Lib.hid (fun l2 => partA_next (n:=x) l1.out l2)
         have HL3:Hid (L2.map (·.1)=partA A x j 0 l):=by show _=_; rw [HL2.out]; exact partA_any _ _ _ _ _
         obtain ⟨jx,hjx2⟩:∃ jx,j * x=jx:=⟨_,rfl⟩
         have HJX:=Lib.hid hjx2
         rw [hjx2] at HLL2 hjx
         clear hlt2 hu hui hln l1 hjx2 HL2
         go_wp2_with fail
         clear u0
         go_loopw [7,31] (fun nv kv wr => ∃ (k:Nat) (L3:List (List Int × Value)),k ≤ x ∧ kv=.int .i64 k ∧ Hid (L3.map (·.1)=partA A x j k l) ∧ Hid (L3.length=jx + k) ∧ Hid (RO wr wq.heap.size nv L3) ∧ Ext wq wr) (fun _ kv _ => x - (intOf kv).toNat)
         case atStart => exact ⟨0,L2,Nat.zero_le _,rfl,HL3,HLL2,HO2,X2⟩
         case round =>
          clear HL3 HLL2 HO2 X2
          obtain ⟨k,L3,hk,rfl,HL3,HLL3,HO3,X3⟩:=hrel
          obtain ⟨wz,rfl⟩:∃ wz:World,wz=wr:=⟨_,rfl⟩
          by_cases hlt3:k < x
          · have hkx:(k:Int) < (x:Int):=by omega
            have HCL:=Lib.hid (clone_ints (.slice lo ln lc) (intsN l) wz (by exact RowOf.ext HUI.out X3))
            have hlb:=HLB.out
            have HO35:=Lib.hid (HO3.out)
            have HLL3':=HLL3
            clear hlt3
            go_wp2_with fail
            refine HCL.out.mono ?_
            rintro e w5 ⟨u5,rfl,h5,X5⟩
            rw [HLN.out] at h5
            have HR5:=Lib.hid h5
            have HO5:=Lib.hid (HO35.out.ext X5)
            have HX5:=Lib.hid (X3.trans X5)
            have hs5:wz.heap.size ≤ w5.heap.size:=X5.size
            have hq5:wq.heap.size ≤ w5.heap.size:=HX5.out.size
            have hqz:wq.heap.size ≤ wz.heap.size:=X3.size
            have hl1:ln + 1 ≤ 17592186044416:=by omega
            have hl2:(ln + 1) * 8 ≤ 140737488355328:=by omega
            have hl3:L3.length + 1 ≤ 17592186044416:=by have:=HLL3.out; omega
            have hl4:(L3.length + 1) * 24 ≤ 140737488355328:=by have:=HLL3.out; omega
            have hcl:(intsN l).map (Value.int .i64) ++ [.int .i64 (k:Int)]=(intsN (l ++ [k])).map (Value.int .i64):=by rw [intsN_app,List.map_append]; rfl
            have HCC:=Lib.hid hcl
            clear h5 hcl
            go_wp2_with (first
             | (at_builtin; refine wp_app1 rfl rfl ei_ints HR5.out rfl rfl (by simp) rfl hl1 hl2 hs5 ?_; intro v6 w6 hown6 hgrew6; have X6:Ext wz w6:=hgrew6.ext X5 (fun k hk => (HR5.out.lt k hk).1); have HO6:=Lib.hid (HO35.out.ext X6); have HXW6:=Lib.hid (X3.trans X6); rw [HCC.out] at hown6; have hrow6:=own_row hown6 hl1; rcases hown6.2 with ⟨_,h0⟩ | ⟨g6,cap6,cur6,rfl,hg6,_⟩; exact absurd h0 (by omega); have hbk6:wq.heap.size ≤ w6.heap.size:=HXW6.out.size; have HRW6:Hid (RowX u7.ownBlock w6 (.slice (some ⟨g6,0,none⟩) (ln + 1) cap6) ((intsN (l ++ [k])).map (Value.int .i64))):=(by refine ⟨hrow6,.inr (fun e => ?_)⟩; have h9:=(HO35.out.lt g6 e.symm).2; omega); clear hown6 hgrew6 hrow6 X6 hg6)
             | (at_builtin; refine wp_app1 rfl rfl ei_ri HO6.out.row rfl rfl (by simp) rfl hl3 hl4 hbk6 ?_; intro v7 w7 hown7 hgrew7; have HO7:=Lib.hid (HO6.out.grew (p:=(intsN (l ++ [k]),.slice (some ⟨g6,0,none⟩) (ln + 1) cap6)) hown7 hgrew7 HRW6.out); have HX7:=Lib.hid (hgrew7.extNew HXW6.out HO6.out.row (Nat.le_refl _)); clear hown7 hgrew7))
            have HLN3:Hid ((L3 ++ [(intsN (l ++ [k]),Value.slice (some ⟨g6,0,none⟩) (ln + 1) cap6)]).map (·.1)=partA A x j (k + 1) l):=by
             show _=_
             rw [List.map_append,HL3.out,partA_succ]
             rfl
            have HLE3:Hid ((L3 ++ [(intsN (l ++ [k]),Value.slice (some ⟨g6,0,none⟩) (ln + 1) cap6)]).length=jx + (k + 1)):=by
             show _=_
             rw [List.length_append,HLL3.out]
             rfl
            clear hs5 hq5 hqz hl1 hl2 hl3 hl4 hlb
            go_roundw
            case rel => exact ⟨k + 1,_,by omega,by go_num,HLN3,HLE3,HO7,HX7.out⟩
            case measure => simp [intOf] <;> omega
          · have hke:k=x:=by omega
            subst hke
            have hge:¬ (k:Int) < (k:Int):=by omega
            have HLN4:Hid (L3.map (·.1)=partA A k (j + 1) 0 []):=by show _=_; rw [HL3.out]; exact HPN.out []
            have HLE4:Hid (L3.length=(j + 1) * k):=by show _=_; rw [HLL3.out,Nat.succ_mul,HJX.out]
            have HX4:=Lib.hid X3
            clear hlt3 HL3 HLL3 X3
            go_wp2_with fail
            go_roundw
            case rel => exact ⟨j + 1,L3,by omega,by go_num,HLN4,HLE4,HO3,HX4.out⟩
            case measure => simp [intOf] <;> omega
       · have hje:j=m:=by omega
         subst hje
         have hge:¬ (j:Int) < (j:Int):=by omega
         have HLN5:Hid (L2.map (·.1)=(allL (ws.take (i + 1))).map intsN):=by
          show _=_
          rw [HL2.out,HALL.out,← partA_all _ _ [],HAL.out]
         have HLE5:Hid (L2.length=y):=by show _=_; rw [HLL2.out,HY.out]
         have HO5:Hid (RO wr B0 u7 L2):=⟨own_mono HO2.out.row (by rw [← HB0.out]; exact HXW.out.size),HO2.out.rd⟩
         have HX5:=Lib.hid (HXW.out.trans X2)
         clear hlt2 HL2 HLL2 HO2 X2
         go_wp2_with fail
         go_roundw
         case rel => exact ⟨i + 1,y,L2,by omega,by go_num,HLN5,HLE5,HNL,hy128,HO5,HX5.out⟩
         case measure => simp [intOf] <;> omega
  · have hie:i=n:=by omega
    subst hie
    have hge:¬ (i:Int) < (i:Int):=by omega
    have hrr:=HO.out.toRows (by rw [HLL.out]; omega)
    have hwt:ws.take i=ws:=by rw [← HN.out,List.take_length]
    rw [HL.out,hwt,allL_rows HP0.out] at hrr
    have hml:=HAL.out
    rw [hwt,allL_len HP0.out] at hml
    have HFW:Hid (fewB 128 ws=true):=by show _=_; unfold fewB; rw [hml]; exact decide_eq_true hm
    have HRR:=Lib.hid hrr
    have HXF:=Lib.hid X
    clear hlt hrr hwt hml HL HLL HAL HO X
    go_wp2_with fail
    go_ret2
    refine ⟨_,rfl,?_⟩
    unfold AllPost
    exact ⟨HXF.out,.inr ⟨HFW.out,_,rfl,HRR.out⟩⟩
theorem widths_ints (T:List Nd) (p:Int):((infosT T p).map fun q => (widthT T p q:Int))=intsN (widthsT T p):=by
 unfold intsN widthsT
 rw [List.map_map]
 rfl
theorem widths_bd {T:List Nd} (hT:Valid T) (p:Int):∀ x ∈ widthsT T p,0 < x ∧ x ≤ 6:=fun x hx => by
 refine ⟨widths_pos T p x hx,?_⟩
 unfold widthsT at hx
 obtain ⟨q,_,rfl⟩:=List.mem_map.1 hx
 exact widthT_le hT p q
def PurePost (T:List Nd) (p:Int) (u:Value) (w w':World):Prop:=Ext w w' ∧ ((playerE T p ≠ 0 ∧ u=.tuple #[.slice none 0 0,.int .i64 (playerE T p)]) ∨
 (playerE T p=0 ∧ fewB 128 (widthsT T p)=false ∧ u=.tuple #[.slice none 0 0,.int .i64 2]) ∨
 (playerE T p=0 ∧ fewB 128 (widthsT T p)=true ∧ ∃ a,u=.tuple #[a,.int .i64 0] ∧ Rows (Value.int .i64) w' a (pursL (widthsT T p) (prodL (widthsT T p)))))
set_option maxHeartbeats 3200000 in
set_option maxRecDepth 100000 in
theorem cvPure_any (v:Value) (T:List Nd) (p:Int) (w:World) (htab:TabPow w) (hv:TreeIn w v T) (hz:TreeSz T) :
 Calls Tryz.prog 35 #[v,.int .i64 p] w fun e w' => ∃ u,e=.returned u ∧ PurePost T p u w w':=by
 have HI:=Lib.hid (treeInfos_any v T p w htab hv hz)
 have HVP:=Lib.hid (fun (h:playerE T p=0) => valid_player h)
 obtain ⟨vo,vc,rfl,_,_⟩:=hv.open
 obtain ⟨E,hE⟩:∃ E,playerE T p=E:=⟨_,rfl⟩
 have HE:=Lib.hid hE
 clear hv hz htab
 by_cases h0:E=0
 · subst h0
   obtain ⟨hT,_⟩:=HVP.out hE
   have HAL:=Lib.hid (fun (b:Value) W (hb:Ints W b (intsN (widthsT T p))) => cvAll_any b (widthsT T p) W hb (widths_bd hT p) (by rw [widths_len]; exact infos_len T p))
   have HF2:=Lib.hid (setsP_snd hT p)
   clear hT hE
   go_enter Tryz.func35,Tryz.ntmps35
   go_wp2_with fail
   refine HI.out.mono ?_
   rintro e w2 ⟨u2,rfl,h2⟩
   unfold InfosPost at h2
   rw [HE.out] at h2
   obtain ⟨X2,⟨h,_⟩ | ⟨_,a,b,rfl,_,hb⟩⟩:=h2
   · exact absurd rfl h
   rw [HF2.out,widths_ints] at hb
   have HAL:=Lib.hid (HAL.out b w2 hb)
   obtain ⟨bo,bc,rfl,_,_⟩:=hb.open
   clear hb
   go_wp2_with fail
   refine HAL.out.mono ?_
   rintro e w3 ⟨u3,rfl,h3⟩
   unfold AllPost at h3
   obtain ⟨X3,⟨hf,rfl⟩ | ⟨hf,a3,rfl,hr⟩⟩:=h3
   · have HF:=Lib.hid hf
     clear hf
     go_wp2_with fail
     go_ret2
     refine ⟨_,rfl,?_⟩
     unfold PurePost
     exact ⟨X2.trans X3,.inr (.inl ⟨HE.out,HF.out,rfl⟩)⟩
   · have HF:=Lib.hid hf
     have HR:=Lib.hid hr
     clear hf hr
     go_wp2_with fail
     go_ret2
     refine ⟨_,rfl,?_⟩
     unfold PurePost
     exact ⟨X2.trans X3,.inr (.inr ⟨HE.out,HF.out,_,rfl,HR.out⟩)⟩
 · have hb:(E != 0)=true:=by rw [bne_iff_ne]; exact h0
   go_enter Tryz.func35,Tryz.ntmps35
   go_wp2_with fail
   refine HI.out.mono ?_
   rintro e w2 ⟨u2,rfl,h2⟩
   unfold InfosPost at h2
   rw [HE.out] at h2
   obtain ⟨X2,⟨_,rfl⟩ | ⟨h,_⟩⟩:=h2
   rotate_left
   · exact absurd h h0
   clear hE
   go_wp2_with fail
   go_ret2
   refine ⟨_,rfl,?_⟩
   unfold PurePost
   rw [HE.out]
   exact ⟨X2,.inl ⟨h0,rfl⟩⟩
def cmpI (a b:Int):Int:=if a < b then -1 else if b < a then 1 else 0
def cmpL:List Int → List Int → Int
 | [],[] => 0
 | [],_ :: _ => -1
 | _ :: _,[] => 1
 | a :: s,b :: t => if cmpI a b ≠ 0 then cmpI a b else cmpL s t
theorem cmpI_neg (a b:Int):cmpI b a=-cmpI a b:=by
 unfold cmpI
 split <;> split <;> first | omega | rfl | skip
 all_goals (split <;> omega)
theorem cmpL_neg:∀ a b:List Int,cmpL b a=-cmpL a b
 | [],[] => rfl
 | [],_ :: _ => rfl
 | _ :: _,[] => rfl
 | a :: s,b :: t => by
   rw [cmpL,cmpL,cmpI_neg a b,cmpL_neg s t]
   by_cases h:cmpI a b=0
   · rw [h]; simp
   · rw [if_pos (by omega),if_pos h]
theorem cmpL_cons {a b:Int} {s t:List Int}:cmpL (a :: s) (b :: t)=if cmpI a b ≠ 0 then cmpI a b else cmpL s t:=rfl
theorem cmpI_bd (a b:Int):-1 ≤ cmpI a b ∧ cmpI a b ≤ 1:=by
 unfold cmpI
 split
 · omega
 · split <;> omega
set_option maxHeartbeats 3200000 in
set_option maxRecDepth 100000 in
theorem compare_any (u v:Value) (a b:List Int) (w:World) (hu:Ints w u a) (hv:Ints w v b) :
 Calls Tryz.prog 76 #[u,v] w fun e w' => e=.returned (.int .i64 (cmpL a b)) ∧ Ext w w':=by
 obtain ⟨wo,rfl⟩:∃ wo:World,wo=w:=⟨_,rfl⟩
 obtain ⟨ao,ac,rfl,hla,hA⟩:=hu.open
 obtain ⟨bo,bc,rfl,hlb,hB⟩:=hv.open
 have HA:=Lib.hid hA
 have HB:=Lib.hid hB
 obtain ⟨F,hF⟩:∃ F,cmpL a b=F:=⟨_,rfl⟩
 have HF:=Lib.hid hF
 rw [hF]
 obtain ⟨na,hna⟩:∃ na,a.length=na:=⟨_,rfl⟩
 obtain ⟨nb,hnb⟩:∃ nb,b.length=nb:=⟨_,rfl⟩
 have HNA:=Lib.hid hna
 have HNB:=Lib.hid hnb
 rw [hna] at hla ⊢
 rw [hnb] at hlb ⊢
 clear hu hv hA hB hF hna hnb
 go_enter Tryz.func76,Tryz.ntmps76
 go_wp2_with fail
 go_loopw [11] (fun iv wr => ∃ (i:Nat),i ≤ na ∧ i ≤ nb ∧ iv=.int .i64 i ∧ Hid (cmpL (a.drop i) (b.drop i)=F) ∧ Ext wo wr) (fun iv _ => na - (intOf iv).toNat)
 case atStart => exact ⟨0,Nat.zero_le _,Nat.zero_le _,rfl,HF,Ext.refl _⟩
 case round =>
  obtain ⟨i,hi,hi2,rfl,HI,X⟩:=hrel
  obtain ⟨wq,rfl⟩:∃ wq:World,wq=wr:=⟨_,rfl⟩
  by_cases hlt:i < na
  · obtain ⟨x,x1,x2,_⟩:=get_lt (xs:=a) (k:=i) (by rw [HNA.out]; exact hlt)
    obtain ⟨ab,aoff,rfl,a0⟩:=(HA.out.ext X).at x1
    have a0:wq.cell? ⟨ab,aoff + i,none⟩=some (.int .i64 x):=a0
    have hii:(i:Int) < (na:Int):=by omega
    by_cases hlt2:i < nb
    · obtain ⟨y,y1,y2,_⟩:=get_lt (xs:=b) (k:=i) (by rw [HNB.out]; exact hlt2)
      obtain ⟨bb,boff,rfl,b0⟩:=(HB.out.ext X).at y1
      have b0:wq.cell? ⟨bb,boff + i,none⟩=some (.int .i64 y):=b0
      have hib:(i:Int) < (nb:Int):=by omega
      have hi9:=HI.out
      rw [x2.out,y2.out,cmpL_cons] at hi9
      have HCM:Hid (∀ W,Calls Tryz.prog 127 #[.int .i64 x,.int .i64 y] W fun e w' => e=.returned (.int .i64 (cmpI x y)) ∧ Ext W w'):=fun W => by
       refine (Tryz.cmp_Compare_int x y W).mono ?_
       rintro e w' ⟨rfl,hw⟩
       exact ⟨by unfold cmpI; rfl,by rw [hw]; exact Ext.refl _⟩
      obtain ⟨zb1,zb2⟩:=cmpI_bd x y
      obtain ⟨z,hz⟩:∃ z,cmpI x y=z:=⟨_,rfl⟩
      rw [hz] at HCM hi9 zb1 zb2
      clear hlt hlt2 x1 x2 y1 y2 HI hz
      by_cases hz0:z=0
      · subst hz0
        rw [if_neg (by simp)] at hi9
        have HI:=Lib.hid hi9
        clear hi9
        go_wp2_with fail
        refine (HCM.out _).mono ?_
        rintro e w2 ⟨rfl,X2⟩
        have XN:=Lib.hid (X.trans X2)
        clear X X2
        go_wp2_with fail
        go_roundw
        case rel => exact ⟨i + 1,by omega,by omega,by go_num,HI,XN.out⟩
        case measure => simp [intOf] <;> omega
      · rw [if_pos hz0] at hi9
        subst hi9
        have hb1:(z != 0)=true:=by rw [bne_iff_ne]; exact hz0
        go_wp2_with fail
        refine (HCM.out _).mono ?_
        rintro e w2 ⟨rfl,X2⟩
        have XN:=Lib.hid (X.trans X2)
        clear X X2
        go_wp2_with fail
        go_ret
        exact ⟨rfl,XN.out⟩
    · have hge:(nb:Int) ≤ (i:Int):=by omega
      have hi9:=HI.out
      rw [x2.out,(List.drop_eq_nil_of_le (by rw [HNB.out]; omega):b.drop i=[])] at hi9
      replace hi9:(1:Int)=F:=hi9
      subst hi9
      clear hlt hlt2 x1 x2 HI
      go_wp2_with fail
      go_ret
      exact ⟨rfl,X⟩
  · have hie:i=na:=by omega
    subst hie
    have hge:¬ (i:Int) < (i:Int):=by omega
    have hi9:=HI.out
    rw [(List.drop_eq_nil_of_le (by rw [HNA.out]; exact Nat.le_refl _):a.drop i=[])] at hi9
    clear hlt HI
    by_cases hlt2:i < nb
    · obtain ⟨y,y1,y2,_⟩:=get_lt (xs:=b) (k:=i) (by rw [HNB.out]; exact hlt2)
      rw [y2.out] at hi9
      replace hi9:(-1:Int)=F:=hi9
      subst hi9
      have hib:(i:Int) < (nb:Int):=by omega
      clear hlt2 y1 y2
      go_wp2_with fail
      go_ret
      exact ⟨rfl,X⟩
    · have hib:¬ (i:Int) < (nb:Int):=by omega
      rw [(List.drop_eq_nil_of_le (by rw [HNB.out]; omega):b.drop i=[])] at hi9
      replace hi9:(0:Int)=F:=hi9
      subst hi9
      clear hlt2
      go_wp2_with fail
      go_ret
      exact ⟨rfl,X⟩
theorem PlnsOf.at {w:World} {ao:Option Addr} {L:List Pl} (h:PlnsOf w ao L) {i:Nat} {x:Pl} (hx:Hid (L[i]?=some x)):∃ b off oo oc,ao=some ⟨b,off,none⟩ ∧
 w.cell? ⟨b,off + i * 2,none⟩=some (.slice oo x.1.length oc) ∧ w.cell? ⟨b,off + i * 2 + 1,none⟩=some (.string x.2) ∧ Ints w (.slice oo x.1.length oc) x.1:=by
 obtain ⟨b,off,cv,e,h0,h1,h2⟩:=h i x hx.out
 obtain ⟨oo,oc,rfl,_,_⟩:=h2.open
 exact ⟨b,off,oo,oc,e,h0,h1,h2⟩
theorem PlnIn.open {w:World} {v:Value} {L:List Pl} (h:PlnIn w v L):∃ ao c,v=.slice ao L.length c ∧ L.length ≤ 17592186044416 ∧ PlnsOf w ao L:=by
 obtain ⟨ao,c,h1,h2,h3,h4,h5⟩:=h
 exact ⟨ao,c,h1,h4,h5⟩
def badC:List Int → List Int → Bool
 | c :: s,w :: t => decide (c < 0) || decide (w ≤ c) || badC s t
 | _,_ => false
def prevB:Option (List Int) → List Int → Bool
 | some y,x => decide (0 ≤ cmpL y x)
 | none,_ => false
def plnF (ws:List Int):Option (List Int) → List Pl → Int
 | _,[] => 0
 | prev,x :: t => if x.1.length ≠ ws.length then 3 else if badC x.1 ws=true then 4 else if prevB prev x.1=true then 7 else plnF ws (some x.1) t
theorem plnF_cons (ws:List Int) (prev:Option (List Int)) (x:Pl) (t:List Pl):plnF ws prev (x :: t)=if x.1.length ≠ ws.length then 3 else if badC x.1 ws=true then 4 else if prevB prev x.1=true then 7 else plnF ws (some x.1) t:=by
 cases prev <;> rfl
theorem plnF_nil (ws:List Int) (prev:Option (List Int)):plnF ws prev []=0:=by cases prev <;> rfl
def prevL (L:List Pl) (i:Nat):Option (List Int):=match i with
 | 0 => none
 | j + 1 => (L[j]?).map (·.1)
def mixE (T:List Nd) (p:Int) (L:List Pl):Int:=if playerE T p ≠ 0 then playerE T p else if 128 < L.length then 2 else if plnF (intsN (widthsT T p)) none L ≠ 0 then plnF (intsN (widthsT T p)) none L else oddsE (L.map (·.2))
def plnT (L:List Pl) (i:Nat):List Value:=((L.take i).map (·.2)).map Value.string
theorem plnT_succ {L:List Pl} {i:Nat} {x:Pl} (h:L[i]?=some x):plnT L (i + 1)=plnT L i ++ [.string x.2]:=by
 obtain ⟨h1,h2⟩:=List.getElem?_eq_some_iff.1 h
 unfold plnT
 rw [List.take_succ_eq_append_getElem h1,h2,List.map_append,List.map_append]
 rfl
theorem plnT_all (L:List Pl):plnT L L.length=(L.map (·.2)).map Value.string:=by unfold plnT; rw [List.take_length]
def PlnSz (L:List Pl):Prop:=∀ x ∈ L,x.2.size ≤ 9223372036854775806
set_option maxHeartbeats 6400000 in
set_option maxRecDepth 100000 in
theorem cvCheck_any (v m:Value) (T:List Nd) (p:Int) (L:List Pl) (w:World) (htab:TabPow w) (hv:TreeIn w v T) (hz:TreeSz T) (hm:PlnIn w m L) (hzs:PlnSz L) :
 Calls Tryz.prog 30 #[v,.int .i64 p,m] w fun e w' => e=.returned (.int .i64 (mixE T p L)) ∧ Ext w w':=by
 have HI:=Lib.hid (treeInfos_any v T p w htab hv hz)
 have HVP:=Lib.hid (fun (h:playerE T p=0) => valid_player h)
 have HTB:=Lib.hid htab
 obtain ⟨vo,vc,rfl,_,_⟩:=hv.open
 obtain ⟨mo,mc,rfl,hml,hpl⟩:=hm.open
 have HPL:=Lib.hid hpl
 have HSZ:=Lib.hid hzs
 obtain ⟨E,hE⟩:∃ E,playerE T p=E:=⟨_,rfl⟩
 have HE:=Lib.hid hE
 obtain ⟨M,hM⟩:∃ M,mixE T p L=M:=⟨_,rfl⟩
 rw [hM]
 unfold mixE at hM
 rw [hE] at hM
 clear hv hz htab hm hzs hpl
 by_cases h0:E=0
 rotate_left
 · rw [if_pos h0] at hM
   subst hM
   have hb:(E != 0)=true:=by rw [bne_iff_ne]; exact h0
   go_enter Tryz.func30,Tryz.ntmps30
   go_wp2_with fail
   refine HI.out.mono ?_
   rintro e w2 ⟨u2,rfl,h2⟩
   unfold InfosPost at h2
   rw [HE.out] at h2
   obtain ⟨X2,⟨_,rfl⟩ | ⟨h,_⟩⟩:=h2
   rotate_left
   · exact absurd h h0
   clear hE
   go_wp2_with fail
   go_ret
   exact ⟨rfl,X2⟩
 subst h0
 rw [if_neg (by simp)] at hM
 obtain ⟨hT,_⟩:=HVP.out hE
 have HF2:=Lib.hid (setsP_snd hT p)
 obtain ⟨N,hN⟩:∃ N,L.length=N:=⟨_,rfl⟩
 have HN:=Lib.hid hN
 rw [hN] at hM hml ⊢
 obtain ⟨ws,hws⟩:∃ ws,intsN (widthsT T p)=ws:=⟨_,rfl⟩
 have HWS:=Lib.hid hws
 rw [hws] at hM
 clear hT hE hN hws
 by_cases hg:128 < N
 · rw [if_pos hg] at hM
   subst hM
   have hgi:(128:Int) < (N:Int):=by omega
   clear hg
   go_enter Tryz.func30,Tryz.ntmps30
   go_wp2_with fail
   refine HI.out.mono ?_
   rintro e w2 ⟨u2,rfl,h2⟩
   unfold InfosPost at h2
   rw [HE.out] at h2
   obtain ⟨X2,⟨h,_⟩ | ⟨_,a,b,rfl,_,hb⟩⟩:=h2
   · exact absurd rfl h
   obtain ⟨bo,bc,rfl,_,_⟩:=hb.open
   clear hb
   go_wp2_with fail
   go_ret
   exact ⟨rfl,X2⟩
 rw [if_neg hg] at hM
 have hgi:¬ (128:Int) < (N:Int):=by omega
 have hN128:N ≤ 128:=by omega
 have HMF:Hid (plnF ws none L ≠ 0 → M=plnF ws none L):=fun h => by rw [if_pos h] at hM; exact hM.symm
 have HM0:Hid (plnF ws none L=0 → M=oddsE (L.map (·.2))):=fun h => by rw [if_neg (by simpa using h)] at hM; exact hM.symm
 obtain ⟨F,hF⟩:∃ F,plnF ws none L=F:=⟨_,rfl⟩
 have HF:Hid (plnF ws (prevL L 0) (L.drop 0)=F):=hF
 rw [hF] at HMF HM0
 clear hM hg hF
 go_enter Tryz.func30,Tryz.ntmps30
 go_wp2_with fail
 refine HI.out.mono ?_
 rintro e w2 ⟨u2,rfl,h2⟩
 unfold InfosPost at h2
 rw [HE.out] at h2
 obtain ⟨X2,⟨h,_⟩ | ⟨_,a,b,rfl,_,hb⟩⟩:=h2
 · exact absurd rfl h
 rw [HF2.out,widths_ints,HWS.out] at hb
 obtain ⟨bo,bc,rfl,hbl,hB⟩:=hb.open
 obtain ⟨nw,hnw⟩:∃ nw,ws.length=nw:=⟨_,rfl⟩
 have HNW:=Lib.hid hnw
 rw [hnw] at hbl ⊢
 have HB:=Lib.hid hB
 have HX2:=Lib.hid X2
 clear hb hB X2 hnw
 go_wp2_with fail
 go_loopw [10,30] (fun ov iv wr => ∃ (i:Nat),i ≤ N ∧ iv=.int .i64 i ∧ Hid (wr.ownsRow w2.heap.size 28 1 ov i (plnT L i)) ∧ Hid (plnF ws (prevL L i) (L.drop i)=F) ∧ Ext w2 wr) (fun _ iv _ => N - (intOf iv).toNat)
 case atStart => exact ⟨0,Nat.zero_le _,rfl,World.ownsRow_nil _ _ _ _,HF,Ext.refl _⟩
 case round =>
  clear HF
  obtain ⟨i,hi,rfl,HO,HF,X⟩:=hrel
  obtain ⟨wq,rfl⟩:∃ wq:World,wq=wr:=⟨_,rfl⟩
  by_cases hlt:i < N
  · obtain ⟨x,x1,x2,_⟩:=get_lt (xs:=L) (k:=i) (by rw [HN.out]; exact hlt)
    obtain ⟨mb,moff,oo,oc,rfl,m0,m1,hcs⟩:=(HPL.out.ext (HX2.out.trans X)).at x1
    have hii:(i:Int) < (N:Int):=by omega
    have hf:=HF.out
    rw [x2.out,plnF_cons] at hf
    have HPT:=Lib.hid (plnT_succ x1.out)
    have HSX:=Lib.hid (HSZ.out x (List.mem_of_getElem? x1.out))
    have HPV:Hid (prevL L (i + 1)=some x.1):=by show (L[i]?).map (·.1)=some x.1; rw [x1.out]; rfl
    obtain ⟨nc,hnc⟩:∃ nc,x.1.length=nc:=⟨_,rfl⟩
    have HNC:=Lib.hid hnc
    rw [hnc] at hf m0 hcs
    rw [HNW.out] at hf
    have HCS:=Lib.hid hcs
    obtain ⟨K9,hK9⟩:∃ K9,wq.heap.size=K9:=⟨_,rfl⟩
    obtain ⟨W5,hW5⟩:∃ W5,wq.alloc (.cells #[.slice oo nc oc,.string x.2] 62)=W5:=⟨_,rfl⟩
    have X5:Ext wq W5:=by rw [← hW5]; exact (Ext.refl wq).alloc _
    have y0:W5.cell? ⟨K9,0,none⟩=some (.slice oo nc oc):=by rw [← hW5,← hK9]; simp [go_sem]
    have y1:W5.cell? ⟨K9,1,none⟩=some (.string x.2):=by rw [← hW5,← hK9]; simp [go_sem]
    have HX5:=Lib.hid X5
    have HO5:=Lib.hid (own_ext HO.out X5)
    clear hlt x1 x2 hcs hnc HF X5 HO
    by_cases hl:nc=nw
    rotate_left
    · rw [if_pos hl] at hf
      have hM3:=HMF.out (by rw [← hf]; decide)
      rw [← hf] at hM3
      subst hM3
      have hb1:((nc:Int) != (nw:Int))=true:=by rw [bne_iff_ne]; omega
      clear hl hf
      go_wp2_with fail
      go_ret
      exact ⟨rfl,(HX2.out.trans X).trans HX5.out⟩
    subst hl
    rw [if_neg (by simp)] at hf
    obtain ⟨bb,hbb⟩:∃ bb,badC x.1 ws=bb:=⟨_,rfl⟩
    rw [hbb] at hf
    have HBB:Hid (badC (x.1.drop 0) (ws.drop 0)=bb):=hbb
    have HFB:=Lib.hid hf
    have HB4:Hid (bb=true → M=4):=fun h => by
     have hf2:=HFB.out
     rw [if_pos h] at hf2
     rw [HMF.out (by rw [← hf2]; decide),hf2]
    have HMO:Hid (∀ W,Ext W5 W → W.cell? ⟨mb,moff + i * 2,none⟩=some (.slice oo nc oc)):=fun W hX => hX.cell (HX5.out.cell m0)
    clear hf hbb
    go_wp2_with fail
    clear m0 m1
    go_loopw [44] (fun kv wr => ∃ (k:Nat),k ≤ nc ∧ kv=.int .i64 k ∧ Hid (badC (x.1.drop k) (ws.drop k)=bb) ∧ Ext W5 wr) (fun kv _ => nc - (intOf kv).toNat)
    case atStart => exact ⟨0,Nat.zero_le _,rfl,HBB,Ext.refl _⟩
    case round =>
     clear HBB
     obtain ⟨k,hk,rfl,HBK,X6⟩:=hrel
     obtain ⟨wz,rfl⟩:∃ wz:World,wz=wr:=⟨_,rfl⟩
     by_cases hlt:k < nc
     · obtain ⟨c,c1,c2,_⟩:=get_lt (xs:=x.1) (k:=k) (by rw [HNC.out]; exact hlt)
       obtain ⟨s,s1,s2,_⟩:=get_lt (xs:=ws) (k:=k) (by rw [HNW.out]; exact hlt)
       obtain ⟨oo',oc',hoo,_,hcc⟩:=HCS.out.open
       simp only [Value.slice.injEq] at hoo
       obtain ⟨rfl,hq9,rfl⟩:=hoo
       clear hq9
       obtain ⟨ob,ooff,rfl,o0⟩:=(hcc.ext (HX5.out.trans X6)).at c1
       obtain ⟨sb,soff,rfl,s0⟩:=(HB.out.ext ((X.trans HX5.out).trans X6)).at s1
       have o0:wz.cell? ⟨ob,ooff + k,none⟩=some (.int .i64 c):=o0
       have s0:wz.cell? ⟨sb,soff + k,none⟩=some (.int .i64 s):=s0
       have hkk:(k:Int) < (nc:Int):=by omega
       have hbk:=HBK.out
       rw [c2.out,s2.out] at hbk
       replace hbk:(decide (c < 0) || decide (s ≤ c) || badC (x.1.drop (k + 1)) (ws.drop (k + 1)))=bb:=hbk
       clear hlt c1 c2 s1 s2 hcc HBK
       by_cases hc0:c < 0
       · have hm4:=HB4.out (by rw [← hbk]; simp [hc0])
         subst hm4
         clear hbk
         go_wp2_with fail
         go_ret
         exact ⟨rfl,((HX2.out.trans X).trans HX5.out).trans X6⟩
       · by_cases hsc:s ≤ c
         · have hm4:=HB4.out (by rw [← hbk]; simp [hsc])
           subst hm4
           clear hbk
           go_wp2_with fail
           go_ret
           exact ⟨rfl,((HX2.out.trans X).trans HX5.out).trans X6⟩
         · have HBN:Hid (badC (x.1.drop (k + 1)) (ws.drop (k + 1))=bb):=by
            show _=_
            rw [← hbk]
            simp [hc0,hsc]
           have hd1:decide (c < 0)=false:=decide_eq_false hc0
           have hd2:decide (s ≤ c)=false:=decide_eq_false hsc
           have X7:=Lib.hid X6
           clear hbk X6
           go_wp2_with fail
           go_roundw
           case rel => exact ⟨k + 1,by omega,by go_num,HBN,X7.out⟩
           case measure => simp [intOf] <;> omega
     · have hke:k=nc:=by omega
       subst hke
       have hge:¬ (k:Int) < (k:Int):=by omega
       have hbk:=HBK.out
       rw [(List.drop_eq_nil_of_le (by rw [HNC.out]; exact Nat.le_refl _):x.1.drop k=[])] at hbk
       replace hbk:false=bb:=hbk
       subst hbk
       have hf:=HFB.out
       rw [if_neg (by simp)] at hf
       have HFC:=Lib.hid hf
       have y0:=X6.cell y0
       have y1:=X6.cell y1
       have HOZ:=Lib.hid (own_ext HO5.out X6)
       have HXZ:=Lib.hid ((X.trans HX5.out).trans X6)
       have hl1:i + 1 ≤ 17592186044416:=by omega
       have hl2:(i + 1) * 16 ≤ 140737488355328:=by omega
       have hbk2:w2.heap.size ≤ wz.heap.size:=HXZ.out.size
       have HIC:Hid (Ints wz (.slice oo k oc) x.1):=(HCS.out.ext HX5.out).ext X6
       have HMO2:=Lib.hid (HMO.out wz X6)
       clear hlt hf HBK HFB HB4 HMO HCS X6 HO5
       cases i with
       | zero =>
         have HFN:Hid (plnF ws (prevL L (0 + 1)) (L.drop (0 + 1))=F):=by
          show _=_
          rw [HPV.out,← HFC.out]
          rfl
         go_wp2_with fail
         go_quiet (fail)
         obtain ⟨Wd,hWd⟩:∃ Wd,wz.drewN nq=Wd:=⟨_,rfl⟩
         have XD:Ext wz Wd:=by rw [← hWd]; exact (Ext.refl wz).drewN _
         rw [hWd]
         clear hWd
         have HRO:=Lib.hid (own_ext HOZ.out XD)
         have hbk3:w2.heap.size ≤ Wd.heap.size:=Nat.le_trans hbk2 XD.size
         have y1:=XD.cell y1
         have HXN:=Lib.hid (HXZ.out.trans XD)
         clear y0 XD
         go_wp2_with (at_builtin; go_must (refine wp_app1 rfl rfl ei_rats HRO.out rfl rfl (by simp) rfl hl1 hl2 hbk3 ?_); intro v' w' hown hgrew)
         rw [← HPT.out] at hown
         have HON:=Lib.hid hown
         have HXX:=Lib.hid (hgrew.extNew HXN.out HRO.out (Nat.le_refl _))
         clear hown hgrew y1
         go_roundw
         case rel => exact ⟨0 + 1,by omega,by go_num,HON,HFN,HXX.out⟩
         case measure => simp [intOf] <;> omega
       | succ j =>
         obtain ⟨y,z1,_,_⟩:=get_lt (xs:=L) (k:=j) (by rw [HN.out]; omega)
         obtain ⟨mb2,moff2,oo2,oc2,hmb,p0,p1,hcs2⟩:=(HPL.out.ext (HX2.out.trans HXZ.out)).at z1
         simp only [Option.some.injEq,Addr.mk.injEq,and_true] at hmb
         obtain ⟨rfl,rfl⟩:=hmb
         have hprev:prevL L (j + 1)=some y.1:=by show (L[j]?).map (·.1)=some y.1; rw [z1.out]; rfl
         have hfc:=HFC.out
         rw [hprev] at hfc
         replace hfc:(if decide (0 ≤ cmpL y.1 x.1)=true then 7 else plnF ws (some x.1) (L.drop (j + 1 + 1)))=F:=hfc
         obtain ⟨ny,hny⟩:∃ ny,y.1.length=ny:=⟨_,rfl⟩
         rw [hny] at p0 hcs2
         have HCP:=Lib.hid (fun W (hX:Ext wz W) => compare_any _ _ y.1 x.1 W (RowOf.ext hcs2 hX) (RowOf.ext HIC.out hX))
         obtain ⟨z,hz⟩:∃ z,cmpL y.1 x.1=z:=⟨_,rfl⟩
         rw [hz] at HCP hfc
         have HFZ:=Lib.hid hfc
         have hj0:(0:Int) < (j:Int) + 1:=by omega
         have hjN:(j:Int) < (N:Int):=by omega
         have hj00:(0:Int) ≤ (j:Int):=by omega
         have ew1:IntKind.i64.wrap (j:Int)=(j:Int):=by rw [IntKind.wrap_i64]; omega
         have ew2:wrap64 (j:Int)=(j:Int):=by unfold wrap64; omega
         clear z1 hcs2 hny hz hfc hprev p1 HFC
         go_wp2_with fail
         go_region_held3 (fun W9 => W9.cell? ⟨mb,moff + j * 2,none⟩=some (.slice oo2 ny oc2) ∧ W9.cell? ⟨K9,0,none⟩=some (.slice oo k oc))
          (first | exact ⟨p0,y0⟩ | exact ⟨X5'.cell p0,X5'.cell y0⟩ | go_keep)
          ((go_at_call 76; refine (HCP.out _ (by exact (Ext.refl wz).drew)).mono ?_; rintro e w5 ⟨rfl,Y5⟩; have X5':Ext wz w5:=Ext.trans ((Ext.refl wz).drew) Y5))
         all_goals
          have XD:Ext wz w5:=X5'
          by_cases hz0:0 ≤ z
          · have hd:decide (0 ≤ z)=true:=decide_eq_true hz0
            have hf7:=HFZ.out
            rw [if_pos hd] at hf7
            have hM7:=HMF.out (by rw [← hf7]; decide)
            rw [← hf7] at hM7
            subst hM7
            clear hf7
            go_wp2_with fail
            go_ret
            exact ⟨rfl,(HX2.out.trans HXZ.out).trans XD⟩
          · have hd:decide (0 ≤ z)=false:=decide_eq_false hz0
            have hf7:=HFZ.out
            rw [if_neg (by rw [hd]; decide)] at hf7
            have HFN:Hid (plnF ws (prevL L (j + 1 + 1)) (L.drop (j + 1 + 1))=F):=by
             show _=_
             rw [HPV.out]
             exact hf7
            have hz1:z < 0:=by omega
            clear hf7
            have HRO:=Lib.hid (own_ext HOZ.out XD)
            have hbk3:w2.heap.size ≤ w5.heap.size:=Nat.le_trans hbk2 XD.size
            have y1:=XD.cell y1
            have HXN:=Lib.hid (HXZ.out.trans XD)
            clear y0 XD p0 X5'
            go_wp2_with (at_builtin; go_must (refine wp_app1 rfl rfl ei_rats HRO.out rfl rfl (by simp) rfl hl1 hl2 hbk3 ?_); intro v' w' hown hgrew)
            rw [← HPT.out] at hown
            have HON:=Lib.hid hown
            have HXX:=Lib.hid (hgrew.extNew HXN.out HRO.out (Nat.le_refl _))
            clear hown hgrew y1 ew1 ew2
            go_roundw
            case rel => exact ⟨j + 1 + 1,by omega,by go_num,HON,HFN,HXX.out⟩
            case measure => simp [intOf] <;> omega
  · have hie:i=N:=by omega
    subst hie
    have hge:¬ (i:Int) < (i:Int):=by omega
    have hf:=HF.out
    rw [(List.drop_eq_nil_of_le (by rw [HN.out]; exact Nat.le_refl _):L.drop i=[]),plnF_nil] at hf
    have hM0:=HM0.out hf.symm
    subst hM0
    have hst:Strs wq u10 (L.map (·.2)):=by
     have h:=HO.out
     rw [← HN.out,plnT_all] at h
     exact own_row h (by rw [HN.out]; omega)
    have HOD:=Lib.hid (odds_any u10 (L.map (·.2)) wq (tabPow_ext HTB.out (HX2.out.trans X)) hst (fun s hs => by
     obtain ⟨x,hx,rfl⟩:=List.mem_map.1 hs
     exact HSZ.out x hx))
    clear hlt hf hst HO HF
    go_wp2_with fail
    refine HOD.out.mono ?_
    rintro e w5 ⟨rfl,X5⟩
    go_wp2_with fail
    go_ret
    exact ⟨rfl,(HX2.out.trans X).trans X5⟩
def toN (l:List Int):List Nat:=l.map Int.toNat
theorem toN_ints:∀ {c ws:List Int},c.length=ws.length → badC c ws=false → intsN (toN c)=c
 | [],_,_,_ => rfl
 | x :: s,[],h,_ => by simp at h
 | x :: s,y :: t,h,hb => by
   simp only [badC,Bool.or_eq_false_iff,decide_eq_false_iff_not] at hb
   have:=toN_ints (c:=s) (ws:=t) (by simpa using h) hb.2
   show ((x.toNat:Int)) :: intsN (toN s)=_
   rw [this,Int.toNat_of_nonneg (by omega)]
theorem toN_len (l:List Int):(toN l).length=l.length:=by unfold toN; rw [List.length_map]
theorem badC_get:∀ {c ws:List Int} {i:Nat} {a b:Int},badC c ws=false → c[i]?=some a → ws[i]?=some b → 0 ≤ a ∧ a < b
 | [],_,i,a,b,_,h,_ => by simp at h
 | x :: s,[],i,a,b,_,_,h => by simp at h
 | x :: s,y :: t,0,a,b,hb,h1,h2 => by
   simp only [badC,Bool.or_eq_false_iff,decide_eq_false_iff_not] at hb
   simp at h1 h2
   subst h1 h2
   omega
 | x :: s,y :: t,i + 1,a,b,hb,h1,h2 => by
   simp only [badC,Bool.or_eq_false_iff,decide_eq_false_iff_not] at hb
   exact badC_get hb.2 (by simpa using h1) (by simpa using h2)
theorem plnF_good {ws:List Int}:∀ {L:List Pl} {prev:Option (List Int)},plnF ws prev L=0 → ∀ x ∈ L,x.1.length=ws.length ∧ badC x.1 ws=false
 | [],_,_,x,hx => by cases hx
 | y :: t,prev,h,x,hx => by
   rw [plnF_cons] at h
   by_cases h1:y.1.length ≠ ws.length
   · rw [if_pos h1] at h; exact absurd h (by decide)
   · rw [if_neg h1] at h
     by_cases h2:badC y.1 ws=true
     · rw [if_pos h2] at h; exact absurd h (by decide)
     · rw [if_neg h2] at h
       by_cases h3:prevB prev y.1=true
       · rw [if_pos h3] at h; exact absurd h (by decide)
       · rw [if_neg h3] at h
         rcases List.mem_cons.1 hx with rfl | hx
         · exact ⟨by omega,by simpa using h2⟩
         · exact plnF_good h x hx
def GoodP (T:List Nd) (p:Int) (x:Pl):Prop:=x.1.length=(intsN (widthsT T p)).length ∧ badC x.1 (intsN (widthsT T p))=false ∧ RatOk x.2
theorem mixE_zero {T:List Nd} {p:Int} {L:List Pl} (h:mixE T p L=0):playerE T p=0 ∧ L.length ≤ 128 ∧ (∀ x ∈ L,GoodP T p x) ∧ plnF (intsN (widthsT T p)) none L=0 ∧ oddsE (L.map (·.2))=0:=by
 unfold mixE at h
 by_cases h0:playerE T p ≠ 0
 · rw [if_pos h0] at h; exact absurd h h0
 rw [if_neg h0] at h
 by_cases h1:128 < L.length
 · rw [if_pos h1] at h; exact absurd h (by decide)
 rw [if_neg h1] at h
 by_cases h2:plnF (intsN (widthsT T p)) none L ≠ 0
 · rw [if_pos h2] at h; exact absurd h h2
 rw [if_neg h2] at h
 refine ⟨by omega,by omega,fun x hx => ?_,by omega,h⟩
 obtain ⟨a,b⟩:=plnF_good (by omega:plnF (intsN (widthsT T p)) none L=0) x hx
 exact ⟨a,b,oddsE_ok h x.2 (List.mem_map.2 ⟨x,hx,rfl⟩)⟩
def plnP (T:List Nd) (p:Int) (x:Pl):Int → Nat:=ofL (infosT T p) (toN x.1)
theorem GoodP.fits {T:List Nd} {p:Int} {x:Pl} (h:GoodP T p x):fitsI T p (plnP T p x):=fun q hq => by
 obtain ⟨i,hi⟩:=List.mem_iff_getElem?.1 hq
 unfold plnP
 rw [ofL_at (infosT_nodup T p) hi]
 have hil:=(List.getElem?_eq_some_iff.1 hi).1
 have hwl:(intsN (widthsT T p)).length=(infosT T p).length:=by unfold intsN; rw [List.length_map,widths_len]
 have hl:i < x.1.length:=by rw [h.1,hwl]; exact hil
 have h1:x.1[i]?=some x.1[i]:=List.getElem?_eq_getElem hl
 have h2:(intsN (widthsT T p))[i]?=some (widthT T p q:Int):=by
  unfold intsN widthsT
  rw [List.getElem?_map,List.getElem?_map,hi]; rfl
 have h3:=badC_get h.2.1 h1 h2
 have h4:(toN x.1)[i]?=some x.1[i].toNat:=by unfold toN; rw [List.getElem?_map,h1]; rfl
 rw [List.getD_eq_getElem?_getD,h4]
 show x.1[i].toNat < _
 omega
def payF (T:List Nd) (p:Int) (S:List Ch) (x:Pl):Rat:=valT T (bothG (if p=0 then certT T p (plnP T p x) else S) (if p=0 then S else certT T p (plnP T p x))) 0
def plO (L:List Pl) (k:Nat):Rat:=((L[k]?).map fun x => ratOf x.2).getD 0
def plV (T:List Nd) (p:Int) (S:List Ch) (L:List Pl) (k:Nat):Rat:=((L[k]?).map (payF T p S)).getD 0
def mixS (T:List Nd) (p:Int) (S:List Ch) (L:List Pl) (j:Nat):Rat:=sumR (fun k => plO L k * plV T p S L k) j
theorem mixS_succ {T:List Nd} {p:Int} {S:List Ch} {L:List Pl} {j:Nat} {x:Pl} (h:L[j]?=some x):mixS T p S L (j + 1)=mixS T p S L j + payF T p S x * ratOf x.2:=by
 unfold mixS
 rw [sumR]
 unfold plO plV
 rw [h]
 show _ + ratOf x.2 * payF T p S x=_
 rw [Rat.mul_comm (ratOf x.2)]
theorem mix_bound {n t m a b c D E k:Nat} (hn:n ≤ 10 ^ 3) (ht:t ≤ 10 ^ 3) (hD:D ≤ 10 ^ a) (hE:E ≤ 10 ^ b) (hk:3 + (m + (3 + c)) + (a + b) < k):n * (10 ^ m * (t * 10 ^ c)) * (D * E) < 10 ^ k:=by
 refine Nat.lt_of_le_of_lt (Nat.mul_le_mul (Nat.mul_le_mul hn (Nat.mul_le_mul (Nat.le_refl _) (Nat.mul_le_mul ht (Nat.le_refl _)))) (Nat.mul_le_mul hD hE)) ?_
 rw [← Nat.pow_add,← Nat.pow_add,← Nat.pow_add,← Nat.pow_add,← Nat.pow_add]
 exact Nat.pow_lt_pow_right (by omega) hk
theorem mix_RBm {m B:Nat} {T:List Nd} (hT:Valid T) {p:Int} (hp:p=0 ∨ p=1) {S:List Ch} (hS:strategyE T (1 - p) S=0) (hA:AllRB m T S) {L:List Pl} (hl:L.length ≤ 128) (hG:∀ x ∈ L,GoodP T p x) (hO:∀ x ∈ L,RB m (ratOf x.2))
 (hB:3 + (m + (3 + (m * T.length + m))) + (2 * m * T.length + m * L.length) < B) :
 (∀ j,j ≤ L.length → RB B (mixS T p S L j)) ∧ ∀ (j:Nat) (x:Pl),L[j]?=some x → RB B (payF T p S x) ∧ RB B (payF T p S x * ratOf x.2):=by
 obtain ⟨D,h0,h1,h2⟩:=sure_has hT hp hS hA
 have hT2:=hT.len
 have hT1:=hT.pos
 have ht:T.length ≤ 10 ^ 3:=Nat.le_trans hT2 (by decide)
 have hV:∀ x ∈ L,HasD D (T.length * 10 ^ (m * T.length + m)) (payF T p S x):=fun x hx => h2 _ _ (cert_sure hT (hG x hx).fits)
 obtain ⟨E,e0,e1,e2⟩:=mix_has (D:=D) (X:=T.length * 10 ^ (m * T.length + m)) (m:=m) (o:=plO L) (V:=plV T p S L) L.length (fun k hk => by
  have h:=List.getElem?_eq_getElem hk
  unfold plO
  rw [h]
  exact hO _ (List.mem_of_getElem? h)) (fun k hk => by
  have h:=List.getElem?_eq_getElem hk
  unfold plV
  rw [h]
  exact hV _ (List.mem_of_getElem? h))
 have hDE:D * E ≠ 0:=Nat.mul_ne_zero h0 e0
 have hX:1 ≤ 10 ^ m * (T.length * 10 ^ (m * T.length + m)):=Nat.mul_pos (Nat.pow_pos (by omega)) (Nat.mul_pos hT1 (Nat.pow_pos (by omega)))
 refine ⟨fun j hj => ?_,fun j x hx => ⟨?_,?_⟩⟩
 · refine HasD.rb (((e2 j hj).1).mono (Nat.mul_le_mul_right _ (show L.length ≤ 128 by omega))) hDE ?_ (Nat.mul_pos (by omega) hX)
   exact mix_bound (by decide) ht h1 e1 hB
 · have h:=hV x (List.mem_of_getElem? hx)
   refine HasD.rb h h0 ?_ (Nat.mul_pos hT1 (Nat.pow_pos (by omega)))
   have:=mix_bound (n:=1) (t:=T.length) (m:=m) (a:=2 * m * T.length) (b:=m * L.length) (c:=m * T.length + m) (D:=D) (E:=1) (k:=B) (by decide) ht h1 (Nat.pow_pos (by omega)) hB
   refine Nat.lt_of_le_of_lt ?_ this
   rw [Nat.one_mul,Nat.mul_one]
   exact Nat.mul_le_mul_right _ (Nat.le_mul_of_pos_left _ (Nat.pow_pos (by omega)))
 · have hj:=(List.getElem?_eq_some_iff.1 hx).1
   have h:=(e2 j (by omega)).2 hj
   unfold plO plV at h
   rw [hx] at h
   have h:HasD (D * E) (10 ^ m * (T.length * 10 ^ (m * T.length + m))) (ratOf x.2 * payF T p S x):=h
   rw [Rat.mul_comm] at h
   refine HasD.rb h hDE ?_ hX
   have:=mix_bound (n:=1) (t:=T.length) (m:=m) (a:=2 * m * T.length) (b:=m * L.length) (c:=m * T.length + m) (D:=D) (E:=E) (k:=B) (by decide) ht h1 e1 hB
   rwa [Nat.one_mul] at this
theorem mix_RB {B:Nat} {T:List Nd} (hT:Valid T) {p:Int} (hp:p=0 ∨ p=1) {S:List Ch} (hS:strategyE T (1 - p) S=0) {L:List Pl} (hl:L.length ≤ 128) (hG:∀ x ∈ L,GoodP T p x) (hB:B=1000000) :
 (∀ j,j ≤ L.length → RB B (mixS T p S L j)) ∧ ∀ (j:Nat) (x:Pl),L[j]?=some x → RB B (payF T p S x) ∧ RB B (payF T p S x * ratOf x.2):=by
 have:=hT.len
 exact mix_RBm hT hp hS (AllRB.any hT hS) hl hG (fun x hx => ratOf_RB2k (hG x hx).2.2) (by omega)
def payA (T:List Nd) (p:Int) (L:List Pl) (S:List Ch):ByteArray × Int:=if mixE T p L ≠ 0 then (⟨#[]⟩,mixE T p L) else if strategyE T (1 - p) S ≠ 0 then (⟨#[]⟩,strategyE T (1 - p) S) else outF (mixS T p S L L.length)
end Go.Proofs.YtcggohkbmhdohaaGreatDoor
