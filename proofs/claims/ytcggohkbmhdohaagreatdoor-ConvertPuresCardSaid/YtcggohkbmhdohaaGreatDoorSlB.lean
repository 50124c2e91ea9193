/- walks shared by the laws: slices at ints, small helpers -/
import Derived.Test.YtcggohkbmhdohaaGreatDoorRows
import Derived.Test.YtcggohkbmhdohaaGreatDoorLibB
import Derived.Deep.QuietTactic
import Derived.BigQuiet
import Derived.RegionTactic
import Derived.ChangeAlike
namespace Go.Proofs.YtcggohkbmhdohaaGreatDoor
open Go.RowKit
def idxF {α:Type} (p:α → Bool):List α → Int → Int
 | [],_ => -1
 | x :: xs,k => if p x then k else idxF p xs (k + 1)
theorem idxF_ge {α:Type} (p:α → Bool) (xs:List α):∀ k,0 ≤ k → ((0 ≤ idxF p xs k) ↔ xs.any p=true):=by
 induction xs with
 | nil => intro k _; simp [idxF]
 | cons x xs ih =>
   intro k hk
   cases h:p x
   · simp [idxF,h,ih (k + 1) (by omega)]
   · simp [idxF,h,hk]
theorem info_int:(Tryz.prog.info? 3).map (fun i => (i.zero,i.size,i.bytes))=some (some (.int .i64 0),1,8):=by kernel_rfl
theorem ei_ints:EI Tryz.prog 51 3 (.int .i64 0) 1 8:=⟨Tryz.underlying51,info_parts info_int,rfl,by decide⟩
set_option maxHeartbeats 400000 in
set_option maxRecDepth 100000 in
theorem clone_ints (v:Value) (xs:List Int) (w:World) (hv:Ints w v xs) :
 Calls Tryz.prog 131 #[v] w fun e w' => ∃ u,e=.returned u ∧ w'.ownsRow w.heap.size 3 1 u xs.length (xs.map (Value.int .i64)) ∧ Ext w w':=by
 have hsrc:=Lib.hid (hv.src (fun _ => rfl))
 obtain ⟨ao,c,rfl,hn,hlen,hne,hc⟩:=hv
 simp only [List.length_map] at hsrc hlen ⊢
 have q22:=fun (w:World) (a:Option Addr) (n c n' c':Nat) => Lib.run_eql_slice_nil (P:=Tryz.prog) w 51 3 a n c n' c' Tryz.underlying51
 cases ao with
 | none =>
   have hxs:xs=[]:=by
    cases xs with
    | nil => rfl
    | cons x xs => exact absurd rfl (hne (by simp))
   subst hxs
   clear hsrc hc hne hn hlen
   go_enter Tryz.func131,Tryz.ntmps131
   go_wp2_with fail
   go_ret
   exact ⟨_,rfl,World.ownsRow_nil _ _ _ _,Ext.refl _⟩
 | some ad =>
   clear hc hne hn
   go_enter Tryz.func131,Tryz.ntmps131
   have hs2:=hsrc.out.ext ((Ext.refl w).alloc (.cells #[] 3))
   have hs3:=Lib.hid hs2; clear hs2
   go_wp2_with (at_builtin; refine wp_app rfl rfl ei_ints rfl (own_empty w _) rfl hs3.out (by omega) (by omega) (by simp) ?_; intro v' w' hown hgrew)
   go_ret
   exact ⟨_,rfl,by simpa using hown,hgrew.extNew ((Ext.refl w).alloc _) (own_empty w _) (Nat.le_refl _)⟩
set_option maxHeartbeats 400000 in
set_option maxRecDepth 100000 in
theorem equal_ints (u v:Value) (xs ys:List Int) (w:World) (hu:Ints w u xs) (hv:Ints w v ys) (q:Bool) (hq:Hid (decide (xs=ys)=q)) :
 Calls Tryz.prog 40 #[u,v] w fun e w' => e=.returned (.bool q) ∧ Ext w w':=by
 obtain ⟨ao,c,rfl,hlen,hc⟩:=hu.open
 obtain ⟨bo,d,rfl,hlen2,hd⟩:=hv.open
 clear hu hv
 by_cases hl:xs.length=ys.length
 · have HL:=Lib.hid hl
   have hle:xs.length ≤ ys.length:=by omega
   have hl':(((xs.length:Nat):Int) != ((ys.length:Nat):Int))=false:=by simp [hl]
   clear hl
   go_enter Tryz.func40,Tryz.ntmps40
   go_wp2_with fail
   go_loopw [13] (fun i wr => ∃ k:Nat,k ≤ xs.length ∧ i=.int .i64 k ∧ Ext w wr ∧ Hid (xs.take k=ys.take k)) (fun i _ => xs.length - (intOf i).toNat)
   case atStart => exact ⟨0,Nat.zero_le _,rfl,Ext.refl _,rfl⟩
   case round =>
    obtain ⟨k,hk,rfl,HX,HI⟩:=hrel
    by_cases hlt:k < xs.length
    · have hlt2:k < ys.length:=by omega
      obtain ⟨x,h1,h2,h3⟩:=get_lt hlt
      obtain ⟨y,g1,g2,g3⟩:=get_lt hlt2
      obtain ⟨b,off,rfl,_⟩:=hc.at h1
      have hcell:=(hc.ext HX).at' h1
      obtain ⟨b2,off2,rfl,_⟩:=hd.at g1
      have hcell2:=(hd.ext HX).at' g1
      by_cases hxy:x=y
      · have hx1:(x != y)=false:=by simp [hxy]
        have hx2:(x == y)=true:=by simp [hxy]
        have HXY:=Lib.hid hxy; clear hxy
        go_wp2_with fail
        go_quiet (fail)
        go_wp2_with fail
        go_roundw
        case rel => exact ⟨k + 1,by omega,by go_num,HX.drewN _,by rw [h3.out,g3.out,HI.out,HXY.out]; rfl⟩
        case measure => simp [intOf]; omega
      · have hx1:(x != y)=true:=by simp [hxy]
        have hx2:(x == y)=false:=by simp [hxy]
        have HXY:=Lib.hid hxy; clear hxy
        go_wp2_with fail
        go_quiet (fail)
        go_wp2_with fail
        go_ret
        refine ⟨ret_bool ?_,HX.drewN _⟩
        rw [← hq.out,eq_comm,decide_eq_false_iff_not]
        intro e
        apply HXY.out
        have e1:=h1.out
        rw [e,g1.out] at e1
        exact (Option.some.inj e1).symm
    · obtain ⟨_,h1⟩:=get_ge hlt
      obtain ⟨_,g1⟩:=get_ge (xs:=ys) (k:=k) (by have:=HL.out; omega)
      go_wp2_with fail
      go_ret
      refine ⟨ret_bool ?_,HX⟩
      rw [← hq.out,eq_comm,decide_eq_true_eq,← h1.out,← g1.out]
      exact HI.out
 · have hl':(((xs.length:Nat):Int) != ((ys.length:Nat):Int))=true:=by simp; omega
   go_enter Tryz.func40,Tryz.ntmps40
   go_wp2_with fail
   go_ret
   refine ⟨ret_bool ?_,Ext.refl _⟩
   rw [← hq.out,eq_comm,decide_eq_false_iff_not]
   intro e; exact hl (by rw [e])
theorem lit_ints (w:World) (e:TypeId) (xs:List Int) (h:xs.length ≤ 17592186044416) :
 Ints (w.alloc (.cells (xs.map (Value.int .i64)).toArray e)) (.slice (some ⟨w.heap.size,0,none⟩) xs.length xs.length) xs:=by
 have:=World.ownsRow_lit (base:=w.heap.size) (e:=e) (size:=1) w (xs.map (Value.int .i64)).toArray xs.length (Nat.le_refl _) (by unfold maxLen; omega) (by simp)
 exact own_rowOf this h
theorem lit_ints_at (w:World) (e:TypeId) (xs:List Int) (h:xs.length ≤ 17592186044416) (k:Nat) (hk:k=w.heap.size) :
 Ints (w.alloc (.cells (xs.map (Value.int .i64)).toArray e)) (.slice (some ⟨k,0,none⟩) xs.length xs.length) xs:=by
 subst hk; exact lit_ints w e xs h
set_option maxHeartbeats 400000 in
set_option maxRecDepth 100000 in
theorem indexFunc_ints (v:Value) (us:List Value) (ps:List Bool) (g:Nat) (caps:Array Value) (w:World) (hv:Row w v us) (hl:ps.length=us.length)
 (eg:∀ args w,(callFunc g args).run Tryz.prog w=.ok (.enter g args) w)
 (hp:∀ (i:Nat) (u:Value) (q:Bool) (W:World),us[i]?=some u → ps[i]?=some q → Ext w W → Calls Tryz.prog g (#[u] ++ caps) W fun e W' => e=.returned (.bool q) ∧ Ext W W') :
 Calls Tryz.prog 139 #[v,.func (.func g) #[] caps] w fun e w' => e=.returned (.int .i64 (idxF id ps 0)) ∧ Ext w w':=by
 obtain ⟨ao,c,rfl,_,hlen,_,hc⟩:=hv
 have HP:=Lib.hid hp; have HL:=Lib.hid hl; have HC:=Lib.hid hc
 clear hp hl hc
 go_enter Tryz.func139,Tryz.ntmps139
 go_wp2_with fail
 go_loopw [8] (fun i wr => ∃ k:Nat,k ≤ us.length ∧ i=.int .i64 k ∧ Ext w wr ∧ Hid (idxF id (ps.drop k) k=idxF id ps 0)) (fun i _ => us.length - (intOf i).toNat)
 case atStart => exact ⟨0,Nat.zero_le _,rfl,Ext.refl _,rfl⟩
 case round =>
  obtain ⟨k,hk,rfl,HX,HI⟩:=hrel
  by_cases hlt:k < us.length
  · obtain ⟨x,h1,_,_⟩:=get_lt hlt
    obtain ⟨q,hq1,hq2,_⟩:=get_lt (xs:=ps) (k:=k) (by rw [HL.out]; exact hlt)
    obtain ⟨b,off,rfl,hc0⟩:=HC.out k x h1.out
    have hcell:=HX.cell hc0
    have hcall:=HP.out k x q wr h1.out hq1.out HX
    clear hc0
    have HH:=Lib.hid hcall; clear hcall
    cases q
    all_goals
     go_wp2_with fail
     refine HH.out.mono ?_
     rintro e w' ⟨rfl,HB⟩
     go_wp2_with fail
    · go_roundw
      case rel => exact ⟨k + 1,by omega,by go_num,HX.trans HB,by rw [← HI.out,hq2.out]; simp [Hid,idxF]⟩
      case measure => simp [intOf]; omega
    · go_ret
      exact ⟨ret_int (by rw [← HI.out,hq2.out]; simp [idxF]),HX.trans HB⟩
  · obtain ⟨h1,_⟩:=get_ge (xs:=ps) (k:=k) (by rw [HL.out]; exact hlt)
    go_wp2_with fail
    go_ret
    exact ⟨ret_int (by rw [← HI.out,h1.out]; rfl),HX⟩
set_option maxHeartbeats 400000 in
set_option maxRecDepth 100000 in
theorem containsFunc_ints (v:Value) (us:List Value) (ps:List Bool) (g:Nat) (caps:Array Value) (w:World) (hv:Row w v us) (hl:ps.length=us.length)
 (eg:∀ args w,(callFunc g args).run Tryz.prog w=.ok (.enter g args) w)
 (hp:∀ (i:Nat) (u:Value) (q:Bool) (W:World),us[i]?=some u → ps[i]?=some q → Ext w W → Calls Tryz.prog g (#[u] ++ caps) W fun e W' => e=.returned (.bool q) ∧ Ext W W')
 (q:Bool) (hq:Hid (ps.any id=q)) :
 Calls Tryz.prog 101 #[v,.func (.func g) #[] caps] w fun e w' => e=.returned (.bool q) ∧ Ext w w':=by
 obtain ⟨i,hi⟩:∃ i,Hid (idxF id ps 0=i):=⟨_,rfl⟩
 have hge:=idxF_ge id ps 0 (Int.le_refl _)
 rw [hi.out,hq.out] at hge
 have HC:=indexFunc_ints v us ps g caps w hv hl eg hp
 rw [hi.out] at HC
 have hge2:=Lib.hid hge; clear hge
 have HD:=Lib.hid HC; clear HC hp hl
 go_enter Tryz.func101,Tryz.ntmps101
 go_wp2_with fail
 refine HD.out.mono ?_
 rintro e w' ⟨rfl,hx⟩
 go_wp2_with fail
 go_ret
 exact ⟨ret_bool (by have:=hge2.out; cases q <;> simp at this <;> simp <;> omega),hx⟩
set_option maxHeartbeats 400000 in
set_option maxRecDepth 100000 in
theorem indexFunc_errs (v:Value) (us:List Value) (ps:List Bool) (g:Nat) (caps:Array Value) (w:World) (hv:Row w v us) (hl:ps.length=us.length)
 (eg:∀ args w,(callFunc g args).run Tryz.prog w=.ok (.enter g args) w)
 (hp:∀ (i:Nat) (u:Value) (q:Bool) (W:World),us[i]?=some u → ps[i]?=some q → Ext w W → Calls Tryz.prog g (#[u] ++ caps) W fun e W' => e=.returned (.bool q) ∧ Ext W W') :
 Calls Tryz.prog 133 #[v,.func (.func g) #[] caps] w fun e w' => e=.returned (.int .i64 (idxF id ps 0)) ∧ Ext w w':=by
 obtain ⟨ao,c,rfl,_,hlen,_,hc⟩:=hv
 have HP:=Lib.hid hp; have HL:=Lib.hid hl; have HC:=Lib.hid hc
 clear hp hl hc
 go_enter Tryz.func133,Tryz.ntmps133
 go_wp2_with fail
 go_loopw [8] (fun i wr => ∃ k:Nat,k ≤ us.length ∧ i=.int .i64 k ∧ Ext w wr ∧ Hid (idxF id (ps.drop k) k=idxF id ps 0)) (fun i _ => us.length - (intOf i).toNat)
 case atStart => exact ⟨0,Nat.zero_le _,rfl,Ext.refl _,rfl⟩
 case round =>
  obtain ⟨k,hk,rfl,HX,HI⟩:=hrel
  by_cases hlt:k < us.length
  · obtain ⟨x,h1,_,_⟩:=get_lt hlt
    obtain ⟨q,hq1,hq2,_⟩:=get_lt (xs:=ps) (k:=k) (by rw [HL.out]; exact hlt)
    obtain ⟨b,off,rfl,hc0⟩:=HC.out k x h1.out
    have hcell:=HX.cell hc0
    have hcall:=HP.out k x q wr h1.out hq1.out HX
    clear hc0
    have HH:=Lib.hid hcall; clear hcall
    cases q
    all_goals
     go_wp2_with fail
     refine HH.out.mono ?_
     rintro e w' ⟨rfl,HB⟩
     go_wp2_with fail
    · go_roundw
      case rel => exact ⟨k + 1,by omega,by go_num,HX.trans HB,by rw [← HI.out,hq2.out]; simp [Hid,idxF]⟩
      case measure => simp [intOf]; omega
    · go_ret
      exact ⟨ret_int (by rw [← HI.out,hq2.out]; simp [idxF]),HX.trans HB⟩
  · obtain ⟨h1,_⟩:=get_ge (xs:=ps) (k:=k) (by rw [HL.out]; exact hlt)
    go_wp2_with fail
    go_ret
    exact ⟨ret_int (by rw [← HI.out,h1.out]; rfl),HX⟩
set_option maxHeartbeats 400000 in
set_option maxRecDepth 100000 in
theorem containsFunc_errs (v:Value) (us:List Value) (ps:List Bool) (g:Nat) (caps:Array Value) (w:World) (hv:Row w v us) (hl:ps.length=us.length)
 (eg:∀ args w,(callFunc g args).run Tryz.prog w=.ok (.enter g args) w)
 (hp:∀ (i:Nat) (u:Value) (q:Bool) (W:World),us[i]?=some u → ps[i]?=some q → Ext w W → Calls Tryz.prog g (#[u] ++ caps) W fun e W' => e=.returned (.bool q) ∧ Ext W W')
 (q:Bool) (hq:Hid (ps.any id=q)) :
 Calls Tryz.prog 87 #[v,.func (.func g) #[] caps] w fun e w' => e=.returned (.bool q) ∧ Ext w w':=by
 obtain ⟨i,hi⟩:∃ i,Hid (idxF id ps 0=i):=⟨_,rfl⟩
 have hge:=idxF_ge id ps 0 (Int.le_refl _)
 rw [hi.out,hq.out] at hge
 have HC:=indexFunc_errs v us ps g caps w hv hl eg hp
 rw [hi.out] at HC
 have hge2:=Lib.hid hge; clear hge
 have HD:=Lib.hid HC; clear HC hp hl
 go_enter Tryz.func87,Tryz.ntmps87
 go_wp2_with fail
 refine HD.out.mono ?_
 rintro e w' ⟨rfl,hx⟩
 go_wp2_with fail
 go_ret
 exact ⟨ret_bool (by have:=hge2.out; cases q <;> simp at this <;> simp <;> omega),hx⟩
set_option maxHeartbeats 400000 in
theorem fine1_any (x:Int) (W:World):Calls Tryz.prog 88 #[.int .i64 x] W fun e W' => e=.returned (.bool (x != 0)) ∧ Ext W W':=by
 go_enter Tryz.func88,Tryz.ntmps88
 go_wp2_with fail
 go_ret
 exact ⟨rfl,Ext.refl _⟩
set_option maxHeartbeats 400000 in
theorem fine_any (v:Value) (es:List Int) (w:World) (hv:Ints w v es) (q:Bool) (hq:Hid (es.any (· != 0)=!q)) :
 Calls Tryz.prog 43 #[v] w fun e w' => e=.returned (.bool q) ∧ Ext w w':=by
 have HD:=Lib.hid (containsFunc_errs v (es.map (Value.int .i64)) (es.map (· != 0)) 88 #[] w hv (by simp) (fun _ _ => by kernel_rfl)
  (fun i u q W h1 h2 hx => by
    simp only [List.getElem?_map,Option.map_eq_some_iff] at h1 h2
    obtain ⟨x,h3,rfl⟩:=h1
    obtain ⟨y,h4,rfl⟩:=h2
    rw [h3] at h4
    obtain rfl:=Option.some.inj h4
    exact fine1_any x W) (!q) (by show _=_; rw [List.any_map]; exact hq.out))
 clear hv
 cases q
 all_goals
  go_enter Tryz.func43,Tryz.ntmps43
  go_wp2_with fail
  refine HD.out.mono ?_
  rintro e w' ⟨rfl,hx⟩
  go_wp2_with fail
  go_ret
  exact ⟨rfl,hx⟩
def idxI (x:Int):List Int → Int → Int
 | [],_ => -1
 | y :: ys,k => if y=x then k else idxI x ys (k + 1)
set_option maxHeartbeats 400000 in
set_option maxRecDepth 100000 in
theorem index_ints (v:Value) (xs:List Int) (x:Int) (w:World) (hv:Ints w v xs) (q:Int) (hq:Hid (idxI x xs 0=q)) :
 Calls Tryz.prog 146 #[v,.int .i64 x] w fun e w' => e=.returned (.int .i64 q) ∧ w=w':=by
 obtain ⟨ao,c,rfl,hlen,hc⟩:=hv.open
 clear hv
 go_enter Tryz.func146,Tryz.ntmps146
 go_wp2_with fail
 go_loop [8] (fun i => ∃ k:Nat,k ≤ xs.length ∧ i=.int .i64 k ∧ Hid (idxI x (xs.drop k) k=q)) (fun i => xs.length - (intOf i).toNat)
 case atStart => exact ⟨0,Nat.zero_le _,rfl,hq⟩
 case round =>
  obtain ⟨k,hk,rfl,HI⟩:=hrel
  by_cases hlt:k < xs.length
  · obtain ⟨y,h1,h2,_⟩:=get_lt hlt
    obtain ⟨b,off,rfl,hcell⟩:=hc.at h1
    by_cases hxy:x=y
    · have hb:((x:Int) == y)=true:=by simp [hxy]
      have HXY:=Lib.hid hxy; clear hxy
      go_wp2_with fail
      go_ret
      exact ⟨ret_int (by rw [← HI.out,h2.out,idxI,if_pos HXY.out.symm]),rfl⟩
    · have hb:((x:Int) == y)=false:=by simp [hxy]
      have HXY:=Lib.hid hxy; clear hxy
      go_wp2_with fail
      go_round
      case rel => exact ⟨k + 1,by omega,by go_num,by rw [← HI.out,h2.out]; simp only [Hid,idxI]; rw [if_neg (fun e => HXY.out e.symm)]; rfl⟩
      case measure => simp [intOf]; omega
  · obtain ⟨h1,_⟩:=get_ge hlt
    go_wp2_with fail
    go_ret
    exact ⟨ret_int (by rw [← HI.out,h1.out]; rfl),rfl⟩
end Go.Proofs.YtcggohkbmhdohaaGreatDoor
