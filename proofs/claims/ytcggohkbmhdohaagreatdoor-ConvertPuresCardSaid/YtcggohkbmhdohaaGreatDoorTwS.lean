/- texts merged: StepApp Wgt Two -/
import Derived.Test.YtcggohkbmhdohaaGreatDoorLibB
import Derived.Test.YtcggohkbmhdohaaGreatDoorSlB
import Derived.Test.YtcggohkbmhdohaaGreatDoorNatZ
import Derived.Laws.CopyOwn
namespace Go.Proofs.YtcggohkbmhdohaaGreatDoor
open Go.RowKit
set_option linter.unusedVariables false
theorem step_app {P:Program} {ops:Array Oper} {o:Oper} {a:Act} {w:World} {K:Act → World → Prop} {Q:Exit → Act → World → Prop} {E:Prop} (hg:o.guard=none) {s x:Operand} {t e:TypeId} {z:Value} {sz bytes:Nat}
 (ho:o.op=.call { callee:=.builtin .append,args:=#[s,x],argTypes:=#[t,t] }) (ei:EI P t e z sz bytes) {B:Nat} {v:Value} {n:Nat} {xs:List Value} (hs:a.eval s=v)
 (hown:w.ownsRow B e sz v n xs) {u:Value} {m:Nat} {news:List Value} (hx:a.eval x=u) (hsrc:Src w u m sz news) (hlen:n + m ≤ 17592186044416) (hby:(n + m) * bytes ≤ 140737488355328) (hB:B ≤ w.heap.size)
 (h:∀ v' w',w'.ownsRow B e sz v' (n + m) (xs ++ news) → Grew w v w' v' → K (a.put o.dst v') w'):if Region.wanted o (yielded ops a.tmps)=true then Oper.wp P o a w K Q else E:=by
 have hw:Region.wanted o (yielded ops a.tmps)=true:=by simp [Region.wanted,hg]
 rw [if_pos hw]
 obtain ⟨v',w',hr,h2,h3⟩:=run_app (P:=P) (ty:=o.type) ei hown hsrc hlen hby hB
 unfold Oper.wp execOp
 simp only [ho,resolve,invoke,builtin,Sem.run_bind,Sem.run_pure,Result.andThen_ok,List.map_toArray,List.map_cons,List.map_nil,hs,hx,hr]
 exact h v' w' h2 h3
set_option maxHeartbeats 1600000 in
set_option maxRecDepth 100000 in
theorem weight_any (v:Value) (ls:List (List ByteArray)) (w:World) (hv:Rows Value.string w v ls) :
 Calls Tryz.prog 45 #[v] w fun e w' => ∃ n,e=.returned (.int .i64 n) ∧ Ext w w':=by
 obtain ⟨wo,rfl⟩:∃ wo:World,wo=w:=⟨_,rfl⟩
 obtain ⟨us,hr,hul,hel⟩:=hv
 obtain ⟨ao,c,rfl,_,hlen,_,hc⟩:=hr
 have HC:=Lib.hid hc
 have HEL:=Lib.hid hel
 have HUL:=Lib.hid hul
 clear hc hel hul
 go_enter Tryz.func45,Tryz.ntmps45
 go_wp2_with fail
 go_loopw [3,10] (fun nv iv wr => ∃ (i:Nat) (n:Int),i ≤ us.length ∧ nv=.int .i64 n ∧ iv=.int .i64 i ∧ Ext wo wr) (fun _ iv _ => us.length - (intOf iv).toNat)
 case atStart => exact ⟨0,0,Nat.zero_le _,rfl,rfl,Ext.refl _⟩
 case round =>
  obtain ⟨i,n,hi,rfl,rfl,X⟩:=hrel
  obtain ⟨wi,rfl⟩:∃ wi:World,wi=wr:=⟨_,rfl⟩
  by_cases hlt:i < us.length
  · obtain ⟨u,d1,d2,d3⟩:=get_lt hlt
    obtain ⟨l,q1,q2,q3⟩:=get_lt (xs:=ls) (k:=i) (by rw [← HUL.out]; exact hlt)
    obtain ⟨b,off,rfl,hc0⟩:=HC.out.ext X i u d1.out
    have hcell:wi.cell? ⟨b,off + i,none⟩=some u:=hc0
    obtain ⟨ao2,c2,rfl,hlen2,hc2⟩:=(HEL.out i u l d1.out q1.out).open
    have HC2:=Lib.hid (hc2.ext X)
    have hki:(i:Int) < (us.length:Int):=by omega
    clear hc0 hlt hc2
    go_wp2_with fail
    go_loopw [3,16] (fun nv jv wr => ∃ (j:Nat) (n:Int),j ≤ l.length ∧ nv=.int .i64 n ∧ jv=.int .i64 j ∧ Ext wi wr) (fun _ jv _ => l.length - (intOf jv).toNat)
    case atStart => exact ⟨0,n,Nat.zero_le _,rfl,rfl,Ext.refl _⟩
    case round =>
     obtain ⟨j,m,hj,rfl,rfl,Y⟩:=hrel
     by_cases hlt2:j < l.length
     · obtain ⟨s,e1,e2,e3⟩:=get_lt hlt2
       obtain ⟨b2,off2,rfl,hc3⟩:=(HC2.out.ext Y).at e1
       have hcell2:wr.cell? ⟨b2,off2 + j,none⟩=some (.string s):=hc3
       have hkj:(j:Int) < (l.length:Int):=by omega
       clear hc3 hlt2
       go_wp2_with fail
       go_roundw
       case rel => exact ⟨j + 1,_,by omega,rfl,by go_num,Y⟩
       case measure => simp [intOf]; omega
     · have hjl:l.length=j:=by omega
       clear hlt2
       go_wp2_with fail
       go_roundw
       case rel => exact ⟨i + 1,_,by omega,rfl,by go_num,X.trans Y⟩
       case measure => simp [intOf]; omega
  · have hil:us.length=i:=by omega
    clear hlt
    go_wp2_with fail
    go_ret
    exact ⟨_,rfl,X⟩
variable {B:Nat} {e1 e2:TypeId} {w w':World} {lv rv:Value} {ml mr:Nat} {xs:List Value} {vss:List (List Value)} {ys:List Value} {u:Value} {vs:List Value}
theorem apart_of {a b:Option Nat} (h:∀ k,a=some k → b ≠ some k):b ≠ a ∨ b=none:=by
 cases a with
 | none => cases b with
   | none => exact .inr rfl
   | some k => exact .inl (by simp)
 | some k => exact .inl (h k rfl)
theorem Grew.cell {v v':Value} (h:Grew w v w' v') {B2 k j:Nat} {x:Value} (hb:∀ k,v.ownBlock=some k → k < B2) (hk:B2 ≤ k) (hc:w.cell? ⟨k,j,none⟩=some x):w'.cell? ⟨k,j,none⟩=some x :=
 h.by'.cell hc (fun e => by have:=hb k (by rw [e]); omega)
theorem src_cell {k:Nat} {x:Value} (h1:x.oneCell'=true) (hc:w.cell? ⟨k,0,none⟩=some x):Src w (.slice (some ⟨k,0,none⟩) 1 1) 1 1 [x]:=by
 refine ⟨_,_,rfl,rfl,by simpa using h1,fun _ => ⟨_,_,rfl,fun j y hy => ?_⟩⟩
 match j,hy with
 | 0,hy =>
   simp at hy
   subst hy
   exact hc
structure Box (w:World) (lv rv:Value) (k:Nat) (x:Value):Prop where
 cell:w.cell? ⟨k,0,none⟩=some x
 nl:∀ j,lv.ownBlock=some j → j ≠ k
 nr:∀ j,rv.ownBlock=some j → j ≠ k
theorem Box.ext {k:Nat} {x:Value} (h:Box w lv rv k x) (he:Ext w w'):Box w' lv rv k x:=⟨he.cell h.cell,h.nl,h.nr⟩
theorem Box.stepL {k:Nat} {x lv':Value} (h:Box w lv rv k x) (hg:Grew w lv w' lv'):Box w' lv' rv k x:=by
 refine ⟨hg.by'.cell h.cell (fun e => h.nl k e.symm rfl),fun j hj => ?_,h.nr⟩
 rcases hg.blk with e | e
 · exact h.nl j (by rw [← e]; exact hj)
 · have h1:=World.block_lt_of_cell? w _ h.cell
   have h2:=e j hj
   simp only at h1
   omega
theorem Box.stepR {k:Nat} {x rv':Value} (h:Box w lv rv k x) (hg:Grew w rv w' rv'):Box w' lv rv' k x:=by
 refine ⟨hg.by'.cell h.cell (fun e => h.nr k e.symm rfl),h.nl,fun j hj => ?_⟩
 rcases hg.blk with e | e
 · exact h.nr j (by rw [← e]; exact hj)
 · have h1:=World.block_lt_of_cell? w _ h.cell
   have h2:=e j hj
   simp only at h1
   omega
theorem drew_cell (w:World) (p:Addr):w.drew.cell? p=w.cell? p:=rfl
theorem cell_new2 (w:World) (o:Obj) (x:Value) (e:TypeId):((w.alloc o).alloc (.cells #[x] e)).cell? ⟨w.heap.size + 1,0,none⟩=some x:=by
 have:=cell_new (w.alloc o) x e
 rwa [World.size_alloc] at this
theorem cell_old2 (w:World) (o:Obj) (x:Value) (e:TypeId):((w.alloc (.cells #[x] e)).alloc o).cell? ⟨w.heap.size,0,none⟩=some x:=Ext.cell ((Ext.refl _).alloc o) (cell_new w x e)
theorem step_app1 {P:Program} {ops:Array Oper} {o:Oper} {a:Act} {w:World} {K:Act → World → Prop} {Q:Exit → Act → World → Prop} {E:Prop} (hg:o.guard=none) {s x:Operand} {t e:TypeId} {z:Value} {bytes:Nat}
 (ho:o.op=.call { callee:=.builtin .append,args:=#[s,x],argTypes:=#[t,t] }) (ei:EI P t e z 1 bytes) {v:Value} (hs:a.eval s=v) {k:Nat} (hx:a.eval x=.slice (some ⟨k,0,none⟩) 1 1) {y:Value} (h1:y.oneCell'=true)
 {B n:Nat} {xs:List Value} (hown:w.ownsRow B e 1 v n xs) (hc:w.cell? ⟨k,0,none⟩=some y) (hlen:n + 1 ≤ 17592186044416) (hby:(n + 1) * bytes ≤ 140737488355328) (hB:B ≤ w.heap.size)
 (h:∀ v' w',w'.ownsRow B e 1 v' (n + 1) (xs ++ [y]) → Grew w v w' v' → K (a.put o.dst v') w'):if Region.wanted o (yielded ops a.tmps)=true then Oper.wp P o a w K Q else E :=
 step_app hg ho ei hs hown hx (src_cell h1 hc) hlen hby hB h
end Go.Proofs.YtcggohkbmhdohaaGreatDoor
