/- texts merged: RcM RcN -/
import Derived.Test.YtcggohkbmhdohaaGreatDoorRcIL
import Derived.Test.YtcggohkbmhdohaaGreatDoorTrBX
namespace Go.Proofs.YtcggohkbmhdohaaGreatDoor
open Go.RowKit
set_option linter.unusedVariables false
set_option maxRecDepth 100000 in
theorem tameClo_any (s:ByteArray) (w:World) (hs:s.size ≤ 9223372036854775806) :
 Calls Tryz.prog 59 #[.string s] w fun e w' => e=.returned (.bool (decide (12 < s.size))) ∧ Ext w w':=by
 obtain ⟨n,hn⟩:∃ n,s.size=n:=⟨_,rfl⟩
 by_cases h:12 < n
 · have hd:decide (12 < s.size)=true:=by rw [hn]; exact decide_eq_true h
   have hb:(12:Int) < (n:Int):=by omega
   rw [hd]
   clear hd
   go_enter Tryz.func59,Tryz.ntmps59
   go_wp2_with fail
   go_ret
   exact ⟨rfl,Ext.refl _⟩
 · have hd:decide (12 < s.size)=false:=by rw [hn]; exact decide_eq_false h
   have hb:¬ (12:Int) < (n:Int):=by omega
   rw [hd]
   clear hd
   go_enter Tryz.func59,Tryz.ntmps59
   go_wp2_with fail
   go_ret
   exact ⟨rfl,Ext.refl _⟩
def tameB (S:List Ch):Bool:=S.all fun c => !(bulkB c.2)
def StrRow (w:World) (v:Value) (SS:List (List Ch)):Prop:=∃ ao c,v=.slice ao SS.length c ∧ SS.length ≤ 1000 ∧ ∀ (j:Nat) (S:List Ch),SS[j]?=some S → ∃ b off u,ao=some ⟨b,off,none⟩ ∧ w.cell? ⟨b,off + j,none⟩=some u ∧ StrIn w u S ∧ StrSz S
theorem StrRow.one {w:World} {u:Value} {S:List Ch} (h:StrIn w u S) (hz:StrSz S) (e:TypeId) (k:Nat) (hk:k=w.heap.size):StrRow (w.alloc (.cells #[u] e)) (.slice (some ⟨k,0,none⟩) 1 1) [S]:=by
 subst hk
 refine ⟨_,_,rfl,by simp,fun j S2 hj => ?_⟩
 match j,hj with
 | 0,hj =>
   cases hj
   exact ⟨_,_,u,rfl,by rw [Nat.zero_add,World.cell?_alloc_new]; rfl,h.ext ((Ext.refl w).alloc _),hz⟩
set_option maxHeartbeats 3200000 in
set_option maxRecDepth 100000 in
theorem tame_any (v:Value) (SS:List (List Ch)) (w:World) (hv:StrRow w v SS) :
 Calls Tryz.prog 17 #[v] w fun e w' => e=.returned (.bool (SS.all tameB)) ∧ Ext w w':=by
 obtain ⟨wo,rfl⟩:∃ wo:World,wo=w:=⟨_,rfl⟩
 obtain ⟨ao,c,rfl,hlen,hn⟩:=hv
 have HN:=Lib.hid hn
 obtain ⟨Q,hQ⟩:∃ Q,SS.all tameB=Q:=⟨_,rfl⟩
 have HQ:=Lib.hid hQ
 rw [hQ]
 clear hn hQ
 go_enter Tryz.func17,Tryz.ntmps17
 go_wp2_with fail
 go_loopw [9] (fun iv wr => ∃ (i:Nat),i ≤ SS.length ∧ iv=.int .i64 i ∧ Hid ((SS.drop i).all tameB=Q) ∧ Ext wo wr) (fun iv _ => SS.length - (intOf iv).toNat)
 case atStart => exact ⟨0,Nat.zero_le _,rfl,HQ.out,Ext.refl _⟩
 case round =>
  obtain ⟨i,hi,rfl,HE,X⟩:=hrel
  by_cases hlt:i < SS.length
  · obtain ⟨S,d1,d2,d3⟩:=get_lt hlt
    obtain ⟨b,off,u,rfl,c0,hu,hz⟩:=HN.out i S d1.out
    obtain ⟨so,sc,rfl,hsl,hs⟩:=(hu.ext X).open
    have c0:=X.cell c0
    have hii:(i:Int) < (SS.length:Int):=by omega
    have hE:=HE.out
    rw [d2.out,List.all_cons] at hE
    have HS:=Lib.hid hs
    have HZ:=Lib.hid hz
    have HXO:=Lib.hid X
    obtain ⟨Q1,hQ1⟩:∃ Q1,tameB S=Q1:=⟨_,rfl⟩
    have HQ1:Hid ((S.drop 0).all (fun c:Ch => !(bulkB c.2))=Q1):=hQ1
    rw [hQ1] at hE
    have HE2:=Lib.hid hE
    clear hu hs hz hlt d1 d2 d3 HE hE hQ1 X
    obtain ⟨wq,rfl⟩:∃ wq:World,wq=wr:=⟨_,rfl⟩
    go_wp2_with fail
    clear c0
    go_loopw [15] (fun jv wr => ∃ (j:Nat),j ≤ S.length ∧ jv=.int .i64 j ∧ Hid ((S.drop j).all (fun c:Ch => !(bulkB c.2))=Q1) ∧ Ext wq wr) (fun jv _ => S.length - (intOf jv).toNat)
    case atStart => exact ⟨0,Nat.zero_le _,rfl,HQ1.out,Ext.refl _⟩
    case round =>
     obtain ⟨j,hj,rfl,HE,X⟩:=hrel
     by_cases hlj:j < S.length
     · obtain ⟨ch,e1,e2,_⟩:=get_lt hlj
       obtain ⟨sb,soff,co,cc,rfl,g0,g1,hco⟩:=(HS.out.ext X).at e1
       have hjj:(j:Int) < (S.length:Int):=by omega
       have hE:=HE.out
       rw [e2.out,List.all_cons] at hE
       have HZ2:=Lib.hid (HZ.out ch (List.mem_of_getElem? e1.out))
       obtain ⟨ci,os⟩:=ch
       dsimp only at g0 g1 hco hE HZ2
       have HOS:=Lib.hid hco
       obtain ⟨ox,hox⟩:∃ ox,os.length=ox:=⟨_,rfl⟩
       rw [hox] at g1 HOS
       obtain ⟨T7,hT7⟩:∃ T7,wr.heap.size=T7:=⟨_,rfl⟩
       obtain ⟨W1,hW1⟩:∃ W1,wr.alloc (.cells #[.int .i64 ci,.slice co ox cc] 73)=W1:=⟨_,rfl⟩
       have X1:Ext wr W1:=by rw [← hW1]; exact (Ext.refl wr).alloc _
       have y1:W1.cell? ⟨T7,1,none⟩=some (.slice co ox cc):=by rw [← hW1,← hT7]; simp [go_sem]
       have HX1:=Lib.hid (X.trans X1)
       have HCF:=Lib.hid (containsFunc_rats (.slice co ox cc) (os.map Value.string) (os.map fun s => decide (12 < s.size)) 59 #[] W1 (HOS.out.ext X1) (by rw [List.length_map,List.length_map]) (fun _ _ => by kernel_rfl)
        (fun j u q W2 hu hq h2 => by
          rw [List.getElem?_map] at hu hq
          cases hy:os[j]? with
          | none => rw [hy] at hu; cases hu
          | some y =>
            rw [hy] at hu hq
            simp only [Option.map_some,Option.some.injEq] at hu hq
            subst hu; subst hq
            exact tameClo_any y W2 (HZ2.out y (List.mem_of_getElem? hy)))
        (bulkB os) (by show _=_; rw [List.any_map]; rfl))
       obtain ⟨B,hB⟩:∃ B,bulkB os=B:=⟨_,rfl⟩
       rw [hB] at hE HCF
       clear e1 e2 hox X1 HE hB HZ2 HOS hco hlj X
       cases B with
       | true =>
         have hq1:Q1=false:=by rw [← hE]; rfl
         have hq:Q=false:=by have h:=HE2.out; rw [hq1] at h; rw [← h]; rfl
         subst hq
         clear hE
         go_wp2_with fail
         refine HCF.out.mono ?_
         rintro e w5 ⟨rfl,X5⟩
         go_wp2_with fail
         go_ret
         exact ⟨rfl,HXO.out.trans (HX1.out.trans X5)⟩
       | false =>
         have HE:=Lib.hid hE
         clear hE
         go_wp2_with fail
         refine HCF.out.mono ?_
         rintro e w5 ⟨rfl,X5⟩
         go_wp2_with fail
         go_roundw
         case rel => exact ⟨j + 1,by omega,by go_num,by show _=_; rw [← HE.out]; rfl,HX1.out.trans X5⟩
         case measure => simp [intOf]; omega
     · have hje:j=S.length:=by omega
       subst hje
       have hE:=HE.out
       rw [List.drop_length,List.all_nil] at hE
       subst hE
       have hge:¬ (S.length:Int) < (S.length:Int):=by omega
       clear HE hlj
       go_wp2_with fail
       go_roundw
       case rel => exact ⟨i + 1,by omega,by go_num,by show _=_; rw [← HE2.out]; rfl,HXO.out.trans X⟩
       case measure => simp [intOf]; omega
  · have hie:i=SS.length:=by omega
    subst hie
    have hE:=HE.out
    rw [List.drop_length,List.all_nil] at hE
    have hge:¬ (SS.length:Int) < (SS.length:Int):=by omega
    subst hE
    clear HE HQ hlt
    go_wp2_with fail
    go_ret
    exact ⟨rfl,X⟩
set_option maxHeartbeats 3200000 in
set_option maxRecDepth 100000 in
theorem choiceWeight_any (v:Value) (S:List Ch) (w:World) (hv:StrIn w v S) :
 Calls Tryz.prog 9 #[v] w fun e w' => ∃ n,e=.returned (.int .i64 n) ∧ Ext w w':=by
 obtain ⟨wo,rfl⟩:∃ wo:World,wo=w:=⟨_,rfl⟩
 obtain ⟨ao,c,rfl,hlen,hn⟩:=hv.open
 have HN:=Lib.hid hn
 clear hn hv
 go_enter Tryz.func9,Tryz.ntmps9
 go_wp2_with fail
 go_loopw [3,8] (fun nv iv wr => ∃ (i:Nat) (n:Int),i ≤ S.length ∧ nv=.int .i64 n ∧ iv=.int .i64 i ∧ Ext wo wr) (fun _ iv _ => S.length - (intOf iv).toNat)
 case atStart => exact ⟨0,0,Nat.zero_le _,rfl,rfl,Ext.refl _⟩
 case round =>
  obtain ⟨i,n,hi,rfl,rfl,X⟩:=hrel
  by_cases hlt:i < S.length
  · obtain ⟨x,d1,d2,d3⟩:=get_lt hlt
    obtain ⟨b,off,oo,oc,rfl,c0,c1,hod⟩:=(HN.out.ext X).at d1
    have hii:(i:Int) < (S.length:Int):=by omega
    have HW:=Lib.hid (fun u W h => weight_any u [x.2] W h)
    have HOD:=Lib.hid hod
    obtain ⟨T7,hT7⟩:∃ T7,wr.heap.size=T7:=⟨_,rfl⟩
    obtain ⟨W1,hW1⟩:∃ W1,wr.alloc (.cells #[.int .i64 x.1,.slice oo x.2.length oc] 73)=W1:=⟨_,rfl⟩
    have X1:Ext wr W1:=by rw [← hW1]; exact (Ext.refl wr).alloc _
    have y4:W1.cell? ⟨T7,1,none⟩=some (.slice oo x.2.length oc):=by rw [← hW1,← hT7]; simp [go_sem]
    have HX1:=Lib.hid X1
    clear hod d1 d2 d3 hlt X1
    go_wp2_with fail
    refine (HW.out _ _ (by exact lit_rowsT _ _ (HOD.out.ext HX1.out) _ (by first | rfl | simp))).mono ?_
    rintro e w5 ⟨n5,rfl,X5⟩
    have XD:Ext W1 w5:=((Ext.refl W1).alloc _).trans X5
    go_wp2_with fail
    go_roundw
    case rel => exact ⟨i + 1,_,by omega,rfl,by go_num,(X.trans HX1.out).trans XD⟩
    case measure => simp [intOf]; omega
  · have hge:¬ (i:Int) < (S.length:Int):=by omega
    clear hlt
    go_wp2_with fail
    go_ret
    first
     | exact ⟨_,rfl,X⟩
     | exact X
     | exact ⟨⟨_,rfl⟩,X⟩
theorem tame_small {S:List Ch} (h:tameB S=true):∀ c ∈ S,∀ s ∈ c.2,s.size ≤ 12:=fun c hc s hs => by
 unfold tameB bulkB at h
 rw [List.all_eq_true] at h
 have h1:=h c hc
 simp only [Bool.not_eq_true',List.any_eq_false,decide_eq_true_eq] at h1
 have:=h1 s hs
 omega
end Go.Proofs.YtcggohkbmhdohaaGreatDoor
