/- texts merged: Big1 Big2 Big3 Big4 Big5 Big6 -/
import Derived.Test.YtcggohkbmhdohaaGreatDoorPlA
import Derived.Test.YtcggohkbmhdohaaGreatDoorMk
import Derived.Test.YtcggohkbmhdohaaGreatDoorChecked
import Derived.Deep.QuietTactic
import Derived.BigQuiet
import Derived.RegionTactic
import Derived.Laws.BitsLemmas
import Derived.Laws.BitsAllLaws
namespace Go.Proofs.YtcggohkbmhdohaaGreatDoor
open Go.RowKit
set_option linter.unusedVariables false
def encD (d:Nat):Value:=.int .u32 (d:Int)
abbrev Digs (w:World) (v:Value) (ds:List Nat):Prop:=RowOf encD w v ds
abbrev NatV (w:World) (v:Value) (n:Nat):Prop:=RowOf encD w v (dig n)
theorem info_u32:(Tryz.prog.info? 167).map (fun i => (i.zero,i.size,i.bytes))=some (some (.int .u32 0),1,4):=by kernel_rfl
theorem ei_nat:EI Tryz.prog 85 167 (.int .u32 0) 1 4:=⟨Tryz.underlying85,info_parts info_u32,rfl,by decide⟩
theorem take_last {ds:List Nat} {j d:Nat} (h:ds[j]?=some d):ds.take (j + 1)=ds.take j ++ [d]:=by
 obtain ⟨h1,h2⟩:=List.getElem?_eq_some_iff.1 h
 rw [List.take_succ_eq_append_getElem h1,h2]
set_option maxHeartbeats 800000 in
set_option maxRecDepth 100000 in
theorem norm_any (ao:Option Addr) (c:Nat) (ds:List Nat) (w:World) (hc:CellsOf encD w ao ds) (hlc:ds.length ≤ c) (hl:ds.length ≤ 17592186044416) (hcm:c ≤ 9223372036854775807) (hd:Dg ds) :
 Calls Tryz.prog 153 #[.slice ao ds.length c] w fun e w' => e=.returned (.slice ao (dig (val ds)).length c) ∧ w'=w:=by
 obtain ⟨F,hF⟩:∃ F,dig (val ds)=F:=⟨_,rfl⟩
 rw [hF]
 have HF:=Lib.hid hF
 have HC:=Lib.hid hc
 have HD:=Lib.hid hd
 clear hF hc hd
 go_enter Tryz.func153,Tryz.ntmps153
 go_wp2_with fail
 go_loop [0] (fun v => ∃ k:Nat,k ≤ ds.length ∧ v=.slice ao k c ∧ Hid (dig (val (ds.take k))=F)) (fun v => match v with | .slice _ k _ => k | _ => 0)
 case atStart => exact ⟨ds.length,Nat.le_refl _,rfl,by show _=_; rw [List.take_length]; exact HF.out⟩
 case round =>
  obtain ⟨k,hk,rfl,HI⟩:=hrel
  by_cases h0:k=0
  · subst h0
    have hf:F=[]:=by rw [← HI.out,List.take_zero]; exact dig_zero
    subst hf
    go_wp2_with fail
    go_ret
    exact ⟨rfl,rfl⟩
  · obtain ⟨j,rfl⟩:∃ j,k=j + 1:=⟨k - 1,by omega⟩
    obtain ⟨d,d1,d2,d3⟩:=get_lt (show j < ds.length by omega)
    obtain ⟨b,off,rfl,hcell⟩:=HC.out.at d1
    have hdl:=HD.out.at d1.out
    have hi:=HI.out
    rw [take_last d1.out] at hi
    by_cases hz:d=0
    · subst hz
      rw [val_snoc_zero] at hi
      have HI2:=Lib.hid hi
      have hcell0:w.cell? ⟨b,off + j,none⟩=some (.int .u32 0):=hcell
      clear hi hcell h0
      go_wp2_with fail
      go_round
      case rel => exact ⟨j,by omega,by simp,HI2⟩
      case measure => simp
    · rw [dig_val_snoc (HD.out.take j) hdl hz] at hi
      have hlen:F.length=j + 1:=by rw [← hi,List.length_append,List.length_take]; simp; omega
      have hzb:((d:Int) == 0)=false:=by rw [beq_eq_false_iff_ne]; omega
      have hcell0:w.cell? ⟨b,off + j,none⟩=some (.int .u32 d):=hcell
      have HL:=Lib.hid hlen
      clear hi hlen hcell h0 hz
      go_wp2_with fail
      go_ret
      exact ⟨by rw [HL.out]; rfl,rfl⟩
theorem digs_lit {w:World} {ds:List Nat} {k:Nat} (hk:k=w.heap.size) (h:ds.length ≤ 17592186044416):(w.alloc (.cells (ds.map encD).toArray 167)).ownsRow w.heap.size 167 1 (.slice (some ⟨k,0,none⟩) ds.length ds.length) ds.length (ds.map encD):=by
 subst hk
 have:=World.ownsRow_lit (base:=w.heap.size) (e:=167) (size:=1) w (ds.map encD).toArray ds.length (Nat.le_refl _) (by unfold maxLen; omega) (by simp)
 simpa using this
theorem own_cells {w:World} {B:Nat} {e:TypeId} {v:Value} {n:Nat} {ds:List Nat} (h:w.ownsRow B e 1 v n (ds.map encD)) (hn:n ≤ 17592186044416):∃ ao c,v=.slice ao ds.length c ∧ CellsOf encD w ao ds ∧ ds.length ≤ c ∧ c ≤ 9223372036854775807 ∧ (ao=none → c=0):=by
 have hl:ds.length=n:=by simpa using h.1
 have hr:=own_rowOf (enc:=encD) h hn
 obtain ⟨ao,c,h1,_,h2,h0,h3⟩:=hr.open'
 refine ⟨ao,c,h1,h3,h2,?_,h0⟩
 rcases h.2 with ⟨e1,_⟩ | ⟨g,cap,cur,e1,_,_,_,hm,_⟩
 · rw [e1] at h1
   simp only [Value.slice.injEq] at h1
   omega
 · rw [e1] at h1
   simp only [Value.slice.injEq] at h1
   unfold maxLen at hm
   omega
theorem wp_make0 {P:Program} {rest:List Oper} {oa:Array Oper} {o:Oper} {a:Act} {Q:Exit → Act → World → Prop} {w:World} (hg:o.guard=none) {l c:Operand} {t e:TypeId} {z:Value} {bytes:Nat} {kl kc:IntKind} {C:Int}
 (hop:o.op=Op.makeSlice t l c) (ei:EI P t e z 1 bytes) (hl:a.eval l=.int kl 0) (hc:a.eval c=.int kc C) (n:Nat) (hC:C=(n:Int)) (hn:n ≤ 17592186044416) (hby:bytes * n ≤ 281474976710656)
 (h:∀ w',w'.ownsRow w.heap.size e 1 (.slice (some ⟨w.heap.size,0,none⟩) 0 n) 0 [] → Ext w w' → wpList P oa Q rest (a.put o.dst (.slice (some ⟨w.heap.size,0,none⟩) 0 n)) w'):wpList P oa Q (o :: rest) a w:=by
 obtain ⟨i,hi,hiz,his,hib⟩:=ei.info
 subst hib
 refine wpList_make_own w hg l c t hop w.heap.size e i z 1 ei.und hi hiz his kl kc C n hl hc hC hby (by unfold maxLen; omega) (Nat.le_refl _) fun w' h1 h2 => h w' h1 ?_
 exact ⟨h2.os,h2.tape,h2.output,h2.size,fun k hk => h2.block k hk (by simp)⟩
theorem norm_own (v:Value) (n:Nat) (ds:List Nat) (w:World) {B:Nat} (h:w.ownsRow B 167 1 v n (ds.map encD)) (hn:n ≤ 17592186044416) (hd:Dg ds) :
 Calls Tryz.prog 153 #[v] w fun e w' => ∃ u,e=.returned u ∧ NatV w u (val ds) ∧ Fr B u ((dig (val ds)).map encD) ∧ w'=w:=by
 have hl:ds.length=n:=by simpa using h.1
 have hnorm:∃ k,k ≤ ds.length ∧ dig (val ds)=ds.take k:=norm_take ds hd
 obtain ⟨ao,c,rfl,hc,hlc,hcm,h0⟩:=own_cells h hn
 refine (norm_any ao c ds w hc hlc (by omega) hcm hd).mono ?_
 rintro e w' ⟨rfl,rfl⟩
 obtain ⟨k,hk,he⟩:=hnorm
 refine ⟨_,rfl,?_,?_,rfl⟩
 · have:=hc.take h0 hlc (by omega) hk
   show RowOf _ _ _ _
   rw [he,List.length_take,Nat.min_eq_left hk]
   exact this
 · rcases h.2 with ⟨e1,_⟩ | ⟨g,cap,cur,e1,hb,_⟩
   · simp only [Value.slice.injEq] at e1
     have h0:ds=[]:=List.eq_nil_of_length_eq_zero e1.2.1
     subst h0
     exact .inl (by show (dig 0).map encD=[]; rw [dig_zero]; rfl)
   · simp only [Value.slice.injEq] at e1
     rw [e1.1]
     exact .inr ⟨g,rfl,hb⟩
set_option maxHeartbeats 1600000 in
set_option maxRecDepth 100000 in
theorem mulAdd_any (v:Value) (ds:List Nat) (x y:Nat) (w:World) (hv:Digs w v ds) (hd:Dg ds) (hx:x < 4294967296) (hy:y < 4294967296) (hl:ds.length ≤ 1073741824) :
 Calls Tryz.prog 157 #[v,.int .u32 x,.int .u32 y] w fun e w' => ∃ u,e=.returned u ∧ NatV w' u (val ds * x + y) ∧ Ext w w':=by
 obtain ⟨wo,rfl⟩:∃ wo:World,wo=w:=⟨_,rfl⟩
 obtain ⟨F,hF⟩:∃ F,mulAddL x ds y=F:=⟨_,rfl⟩
 obtain ⟨ao,c,rfl,hlen,hc⟩:=hv.open
 have HF:=Lib.hid hF
 have HC:=Lib.hid hc
 have HD:=Lib.hid hd
 have hxi:(x:Int) ≤ 4294967295:=by omega
 have hyi:(y:Int) ≤ 4294967295:=by omega
 clear hF hc hd hv
 go_enter Tryz.func157,Tryz.ntmps157
 go_wp2_with (first
  | (at_make; refine wp_make0 rfl rfl ei_nat rfl rfl (ds.length + 1) (by omega) (by omega) (by omega) ?_; intro w2 hO2 hX2))
 go_loopw [7,8,19] (fun o cv iv wr => ∃ (i cr:Nat) (os:List Nat),i ≤ ds.length ∧ iv=.int .i64 i ∧ cv=.int .u64 cr ∧ cr < 4294967296 ∧ os.length=i ∧ wr.ownsRow wo.heap.size 167 1 o i (os.map encD) ∧ Ext wo wr ∧ Hid (os ++ mulAddL x (ds.drop i) cr=F)) (fun _ _ iv _ => ds.length - (intOf iv).toNat)
 case atStart => exact ⟨0,y,[],Nat.zero_le _,rfl,rfl,hy,rfl,hO2,hX2,HF.out⟩
 case round =>
  obtain ⟨i,cr,os,hi,rfl,rfl,hcr,hol,HO,X,HI⟩:=hrel
  have hci:(cr:Int) ≤ 4294967295:=by omega
  have HOL:=Lib.hid hol
  clear hol
  by_cases hlt:i < ds.length
  · obtain ⟨d,d1,d2,d3⟩:=get_lt hlt
    obtain ⟨b,off,rfl,hc0⟩:=(HC.out.ext X).at d1
    have hcell:wr.cell? ⟨b,off + i,none⟩=some (.int .u32 d):=hc0
    have hdl:=HD.out.at d1.out
    obtain ⟨p,hp⟩:∃ p,d * x=p:=⟨_,rfl⟩
    have hcar:=mulAdd_carry hcr hdl hx
    have hi2:=HI.out
    rw [d2.out,mulAddL] at hi2
    rw [hp] at hcar hi2
    obtain ⟨lo,hlo⟩:∃ lo,(cr + p) % 4294967296=lo:=⟨_,rfl⟩
    obtain ⟨hh,hhi⟩:∃ hh,(cr + p) / 4294967296=hh:=⟨_,rfl⟩
    rw [hlo,hhi] at hi2
    rw [hhi] at hcar
    have HI2:Hid ((os ++ [lo]) ++ mulAddL x (ds.drop (i + 1)) hh=F):=by show _=_; rw [List.append_assoc]; exact hi2
    have e1:(d:Int) * (x:Int)=(p:Int):=by rw [← hp,Int.natCast_mul]
    have e2:((cr:Int) + (p:Int)) % 4294967296=(lo:Int):=by omega
    have e3:((cr:Int) + (p:Int)) / 4294967296=(hh:Int):=by omega
    have b1:(p:Int) ≤ 18446744073709551615:=by omega
    have b2:(cr:Int) + (p:Int) ≤ 18446744073709551615:=by omega
    have hdi:(d:Int) ≤ 4294967295:=by omega
    have hki:(i:Int) < (ds.length:Int):=by omega
    clear hi2 hlo hhi hp hc0
    have hsz:=X.size
    go_wp2_with (at_builtin; refine wp_app1 (s:=.tmp 30) (x:=.tmp 33) (y:=.int .u32 lo) rfl rfl ei_nat HO rfl rfl rfl rfl (by omega) (by omega) (by omega) ?_; intro v' w' hown hgrew)
    go_roundw
    case rel => exact ⟨i + 1,hh,os ++ [lo],by omega,by go_num,rfl,hcar.2,by rw [List.length_append,HOL.out]; rfl,own_cast hown (by simp [encD]) rfl,hgrew.extNew X HO (Nat.le_refl _),HI2⟩
    case measure => simp [intOf]; omega
  · have hil:i=ds.length:=by omega
    subst hil
    have hi2:=HI.out
    rw [List.drop_length,mulAddL] at hi2
    have hval:Hid (val (os ++ [cr])=val ds * x + y):=by show _=_; rw [hi2,← HF.out,val_mulAddL]
    have hdg:Hid (Dg (os ++ [cr])):=by show Dg _; rw [hi2,← HF.out]; exact dg_mulAddL hx ds y HD.out hy
    have hsz:=X.size
    have hcm:(cr:Int) % 4294967296=(cr:Int):=by omega
    clear hi2
    go_wp2_with (at_builtin; refine wp_app1 (s:=.tmp 38) (x:=.tmp 41) (y:=.int .u32 cr) rfl rfl ei_nat HO rfl rfl rfl rfl (by omega) (by omega) (by omega) ?_; intro v' w' hown hgrew)
    have hown2:w'.ownsRow wo.heap.size 167 1 v' (ds.length + 1) ((os ++ [cr]).map encD):=own_cast hown (by simp [encD]) rfl
    refine (norm_own v' _ (os ++ [cr]) w' hown2 (by omega) hdg.out).mono ?_
    rintro e w3 ⟨u,rfl,hn,_,rfl⟩
    go_wp2_with fail
    go_ret
    exact ⟨u,rfl,by rw [← hval.out]; exact hn,hgrew.extNew X HO (Nat.le_refl _)⟩
set_option maxHeartbeats 800000 in
set_option maxRecDepth 100000 in
theorem small_any (x:Nat) (w:World) (hx:x < 18446744073709551616) :
 Calls Tryz.prog 147 #[.int .u64 x] w fun e w' => ∃ u,e=.returned u ∧ NatV w' u x ∧ Ext w w':=by
 obtain ⟨lo,hlo⟩:∃ lo,x % 4294967296=lo:=⟨_,rfl⟩
 obtain ⟨hh,hhi⟩:∃ hh,x / 4294967296=hh:=⟨_,rfl⟩
 have e2:(x:Int) % 4294967296=(lo:Int):=by omega
 have e3:(x:Int) / 4294967296=(hh:Int):=by omega
 have b3:(hh:Int) ≤ 4294967295:=by omega
 have e4:(hh:Int) % 4294967296=(hh:Int):=by omega
 have b1:(x:Int) ≤ 18446744073709551615:=by omega
 have hval:Hid (val [lo,hh]=x):=by show _=_; simp only [val]; omega
 have hdg:Hid (Dg [lo,hh]):=by show Dg _; exact Dg.cons (by omega) (Dg.cons (by omega) Dg.nil)
 have hN:=Lib.hid (fun (k:Nat) (hk:k=w.heap.size) => norm_own (.slice (some ⟨k,0,none⟩) 2 2) 2 [lo,hh] _ (digs_lit (w:=w) (ds:=[lo,hh]) hk (by simp)) (by omega) hdg.out)
 clear hlo hhi
 go_enter Tryz.func147,Tryz.ntmps147
 go_wp2_with fail
 refine (hN.out _ rfl).mono ?_
 rintro e w3 ⟨u,rfl,hn,_,rfl⟩
 go_wp2_with fail
 go_ret
 exact ⟨u,rfl,by rw [← hval.out]; exact hn,(Ext.refl w).alloc _⟩
theorem Digs.len {w:World} {v:Value} {ds:List Nat} (h:Digs w v ds):ds.length ≤ 17592186044416:=by
 obtain ⟨_,_,_,h2,_⟩:=h.open
 exact h2
set_option maxHeartbeats 3200000 in
set_option maxRecDepth 100000 in
theorem add_le (v u:Value) (ds ms:List Nat) (w:World) (hv:Digs w v ds) (hu:Digs w u ms) (hd:Dg ds) (hm:Dg ms) (hml:ms.length ≤ ds.length) (hl:ds.length ≤ 1073741824) (sw:Bool) (hsw:sw=true → ms.length < ds.length) :
 Calls Tryz.prog 150 (if sw then #[u,v] else #[v,u]) w fun e w' => ∃ r,e=.returned r ∧ NatV w' r (val ds + val ms) ∧ Ext w w':=by
 obtain ⟨wo,rfl⟩:∃ wo:World,wo=w:=⟨_,rfl⟩
 obtain ⟨F,hF⟩:∃ F,addL ds ms 0=F:=⟨_,rfl⟩
 obtain ⟨ao,c,rfl,hlen,hc⟩:=hv.open
 obtain ⟨ao2,c2,rfl,hlen2,hc2⟩:=hu.open
 have HF:=Lib.hid hF
 have HC:=Lib.hid hc
 have HC2:=Lib.hid hc2
 have HD:=Lib.hid hd
 have HM:=Lib.hid hm
 have hmi:(ms.length:Int) ≤ (ds.length:Int):=by omega
 clear hF hc hd hv hc2 hm hu
 cases sw
 all_goals
  first
   | (have hsi:(ms.length:Int) < (ds.length:Int):=by have:=hsw rfl; omega)
   | skip
  clear hsw
  simp only [Bool.false_eq_true,↓reduceIte]
  go_enter Tryz.func150,Tryz.ntmps150
  go_wp2_with (first
   | (at_make; refine wp_make0 rfl rfl ei_nat rfl rfl (ds.length + 1) (by omega) (by omega) (by omega) ?_; intro w2 hO2 hX2))
  go_loopw [5,6,22] (fun o cv iv wr => ∃ (i cr:Nat) (os:List Nat),i ≤ ds.length ∧ iv=.int .i64 i ∧ cv=.int .u64 cr ∧ cr ≤ 1 ∧ os.length=i ∧ wr.ownsRow wo.heap.size 167 1 o i (os.map encD) ∧ Ext wo wr ∧ Hid (os ++ addL (ds.drop i) (ms.drop i) cr=F)) (fun _ _ iv _ => ds.length - (intOf iv).toNat)
  case atStart => exact ⟨0,0,[],Nat.zero_le _,rfl,rfl,by omega,rfl,hO2,hX2,HF.out⟩
  case round =>
   obtain ⟨i,cr,os,hi,rfl,rfl,hcr,hol,HO,X,HI⟩:=hrel
   have hci:(cr:Int) ≤ 1:=by omega
   have HOL:=Lib.hid hol
   clear hol
   have hsz:=X.size
   by_cases hlt:i < ds.length
   · obtain ⟨d,d1,d2,d3⟩:=get_lt hlt
     obtain ⟨b,off,rfl,hc0⟩:=(HC.out.ext X).at d1
     have hcell:wr.cell? ⟨b,off + i,none⟩=some (.int .u32 d):=hc0
     have hdl:=HD.out.at d1.out
     have hdi:(d:Int) ≤ 4294967295:=by omega
     have hki:(i:Int) < (ds.length:Int):=by omega
     by_cases hlm:i < ms.length
     · obtain ⟨m,m1,m2,m3⟩:=get_lt hlm
       obtain ⟨b2,off2,rfl,hc02⟩:=(HC2.out.ext X).at m1
       have hcell2:wr.cell? ⟨b2,off2 + i,none⟩=some (.int .u32 m):=hc02
       have hmm:=HM.out.at m1.out
       have hmmi:(m:Int) ≤ 4294967295:=by omega
       have hmk:(i:Int) < (ms.length:Int):=by omega
       have hi2:=HI.out
       rw [d2.out,m2.out,addL] at hi2
       simp only [List.headD_cons,List.tail_cons] at hi2
       obtain ⟨lo,hlo⟩:∃ lo,(cr + d + m) % 4294967296=lo:=⟨_,rfl⟩
       obtain ⟨hh,hhi⟩:∃ hh,(cr + d + m) / 4294967296=hh:=⟨_,rfl⟩
       rw [hlo,hhi] at hi2
       have HI2:Hid ((os ++ [lo]) ++ addL (ds.drop (i + 1)) (ms.drop (i + 1)) hh=F):=by show _=_; rw [List.append_assoc]; exact hi2
       have e2:((cr:Int) + (d:Int) + (m:Int)) % 4294967296=(lo:Int):=by omega
       have e3:((cr:Int) + (d:Int) + (m:Int)) / 4294967296=(hh:Int):=by omega
       have hh1:hh ≤ 1:=by omega
       clear hi2 hlo hhi hc0 hc02
       go_wp2_with (at_builtin; refine wp_app1 (s:=.tmp 42) (x:=.tmp 45) (y:=.int .u32 lo) rfl rfl ei_nat HO rfl rfl rfl rfl (by omega) (by omega) (by omega) ?_; intro v' w' hown hgrew)
       go_roundw
       case rel => exact ⟨i + 1,hh,os ++ [lo],by omega,by go_num,rfl,hh1,by rw [List.length_append,HOL.out]; rfl,own_cast hown (by simp [encD]) rfl,hgrew.extNew X HO (Nat.le_refl _),HI2⟩
       case measure => simp [intOf]; omega
     · have hmk:(ms.length:Int) ≤ (i:Int):=by omega
       have hi2:=HI.out
       rw [d2.out,List.drop_eq_nil_of_le (by omega:ms.length ≤ i),addL] at hi2
       simp only [List.headD_nil,List.tail_nil,Nat.add_zero] at hi2
       obtain ⟨lo,hlo⟩:∃ lo,(cr + d) % 4294967296=lo:=⟨_,rfl⟩
       obtain ⟨hh,hhi⟩:∃ hh,(cr + d) / 4294967296=hh:=⟨_,rfl⟩
       rw [hlo,hhi] at hi2
       have HI2:Hid ((os ++ [lo]) ++ addL (ds.drop (i + 1)) (ms.drop (i + 1)) hh=F):=by
        show _=_
        rw [List.append_assoc,List.drop_eq_nil_of_le (by omega:ms.length ≤ i + 1)]; exact hi2
       have e2:((cr:Int) + (d:Int)) % 4294967296=(lo:Int):=by omega
       have e3:((cr:Int) + (d:Int)) / 4294967296=(hh:Int):=by omega
       have hh1:hh ≤ 1:=by omega
       clear hi2 hlo hhi hc0
       go_wp2_with (at_builtin; refine wp_app1 (s:=.tmp 42) (x:=.tmp 45) (y:=.int .u32 lo) rfl rfl ei_nat HO rfl rfl rfl rfl (by omega) (by omega) (by omega) ?_; intro v' w' hown hgrew)
       go_roundw
       case rel => exact ⟨i + 1,hh,os ++ [lo],by omega,by go_num,rfl,hh1,by rw [List.length_append,HOL.out]; rfl,own_cast hown (by simp [encD]) rfl,hgrew.extNew X HO (Nat.le_refl _),HI2⟩
       case measure => simp [intOf]; omega
   · have hil:i=ds.length:=by omega
     subst hil
     have hi2:=HI.out
     rw [List.drop_length,addL] at hi2
     have hval:Hid (val (os ++ [cr])=val ds + val ms):=by show _=_; rw [hi2,← HF.out,val_addL ds ms 0 hml]; rfl
     have hdg:Hid (Dg (os ++ [cr])):=by show Dg _; rw [hi2,← HF.out]; exact dg_addL ds ms 0 HD.out HM.out (by omega)
     have hcm:(cr:Int) % 4294967296=(cr:Int):=by omega
     clear hi2
     go_wp2_with (at_builtin; refine wp_app1 (s:=.tmp 50) (x:=.tmp 53) (y:=.int .u32 cr) rfl rfl ei_nat HO rfl rfl rfl rfl (by omega) (by omega) (by omega) ?_; intro v' w' hown hgrew)
     have hown2:w'.ownsRow wo.heap.size 167 1 v' (ds.length + 1) ((os ++ [cr]).map encD):=own_cast hown (by simp [encD]) rfl
     refine (norm_own v' _ (os ++ [cr]) w' hown2 (by omega) hdg.out).mono ?_
     rintro e w3 ⟨u,rfl,hn,_,rfl⟩
     go_wp2_with fail
     go_ret
     exact ⟨u,rfl,by rw [← hval.out]; exact hn,hgrew.extNew X HO (Nat.le_refl _)⟩
theorem add_any (v u:Value) (n m:Nat) (w:World) (hv:NatV w v n) (hu:NatV w u m) (hl:(dig n).length ≤ 1073741824) (hl2:(dig m).length ≤ 1073741824) :
 Calls Tryz.prog 150 #[v,u] w fun e w' => ∃ r,e=.returned r ∧ NatV w' r (n + m) ∧ Ext w w':=by
 by_cases h:(dig m).length ≤ (dig n).length
 · have:=add_le v u (dig n) (dig m) w hv hu (dig_dg n) (dig_dg m) h hl false (fun e => by cases e)
   rw [val_dig,val_dig] at this
   exact this
 · have:=add_le u v (dig m) (dig n) w hu hv (dig_dg m) (dig_dg n) (by omega) hl2 true (fun _ => by omega)
   rw [val_dig,val_dig,Nat.add_comm] at this
   exact this
set_option maxHeartbeats 3200000 in
set_option maxRecDepth 100000 in
theorem sub_le (v u:Value) (ds ms:List Nat) (w:World) (hv:Digs w v ds) (hu:Digs w u ms) (hd:Dg ds) (hm:Dg ms) (hml:ms.length ≤ ds.length) (hl:ds.length ≤ 1073741824) (hle:val ms ≤ val ds) :
 Calls Tryz.prog 152 #[v,u] w fun e w' => ∃ r,e=.returned r ∧ NatV w' r (val ds - val ms) ∧ Ext w w':=by
 obtain ⟨wo,rfl⟩:∃ wo:World,wo=w:=⟨_,rfl⟩
 obtain ⟨F,hF⟩:∃ F,subL ds ms 0=F:=⟨_,rfl⟩
 obtain ⟨ao,c,rfl,hlen,hc⟩:=hv.open
 obtain ⟨ao2,c2,rfl,hlen2,hc2⟩:=hu.open
 have HF:=Lib.hid hF
 have HC:=Lib.hid hc
 have HC2:=Lib.hid hc2
 have HD:=Lib.hid hd
 have HM:=Lib.hid hm
 have HLE:=Lib.hid hle
 have hmi:(ms.length:Int) ≤ (ds.length:Int):=by omega
 clear hF hc hd hv hc2 hm hu hle
 go_enter Tryz.func152,Tryz.ntmps152
 go_wp2_with (first
  | (at_make; refine wp_make0 rfl rfl ei_nat rfl rfl ds.length rfl (by omega) (by omega) ?_; intro w2 hO2 hX2))
 go_loopw [5,6,15] (fun o cv iv wr => ∃ (i b:Nat) (os:List Nat),i ≤ ds.length ∧ iv=.int .i64 i ∧ cv=.int .i64 b ∧ b ≤ 1 ∧ os.length=i ∧ wr.ownsRow wo.heap.size 167 1 o i (os.map encD) ∧ Ext wo wr ∧ Hid (os ++ subL (ds.drop i) (ms.drop i) b=F)) (fun _ _ iv _ => ds.length - (intOf iv).toNat)
 case atStart => exact ⟨0,0,[],Nat.zero_le _,rfl,rfl,by omega,rfl,hO2,hX2,HF.out⟩
 case round =>
  obtain ⟨i,bo,os,hi,rfl,rfl,hcr,hol,HO,X,HI⟩:=hrel
  have hci:(bo:Int) ≤ 1:=by omega
  have HOL:=Lib.hid hol
  clear hol
  have hsz:=X.size
  by_cases hlt:i < ds.length
  · obtain ⟨d,d1,d2,d3⟩:=get_lt hlt
    obtain ⟨b,off,rfl,hc0⟩:=(HC.out.ext X).at d1
    have hcell:wr.cell? ⟨b,off + i,none⟩=some (.int .u32 d):=hc0
    have hdl:=HD.out.at d1.out
    have hdi:(d:Int) ≤ 4294967295:=by omega
    have hki:(i:Int) < (ds.length:Int):=by omega
    by_cases hlm:i < ms.length
    · obtain ⟨m,m1,m2,m3⟩:=get_lt hlm
      obtain ⟨b2,off2,rfl,hc02⟩:=(HC2.out.ext X).at m1
      have hcell2:wr.cell? ⟨b2,off2 + i,none⟩=some (.int .u32 m):=hc02
      have hmm:=HM.out.at m1.out
      have hmmi:(m:Int) ≤ 4294967295:=by omega
      have hmk:(i:Int) < (ms.length:Int):=by omega
      have hi2:=HI.out
      rw [d2.out,m2.out,subL] at hi2
      simp only [List.headD_cons,List.tail_cons] at hi2
      obtain ⟨lo,hlo⟩:∃ lo,(d + 4294967296 - bo - m) % 4294967296=lo:=⟨_,rfl⟩
      rw [hlo] at hi2
      by_cases hb:d < bo + m
      · rw [show bor d m bo=1 from if_pos hb] at hi2
        have HI2:Hid ((os ++ [lo]) ++ subL (ds.drop (i + 1)) (ms.drop (i + 1)) 1=F):=by show _=_; rw [List.append_assoc]; exact hi2
        have e4:(d:Int) - (bo:Int) - (m:Int) < 0:=by omega
        have e3:(d:Int) - (bo:Int) - (m:Int) + 4294967296=(lo:Int):=by omega
        have hlo9:(lo:Int) ≤ 4294967295:=by omega
        clear hi2 hlo hc0 hc02 hb
        go_wp2_with (at_builtin; refine wp_app1 (s:=.tmp 39) (x:=.tmp 42) (y:=.int .u32 lo) rfl rfl ei_nat HO rfl rfl rfl rfl (by omega) (by omega) (by omega) ?_; intro v' w' hown hgrew)
        go_roundw
        case rel => exact ⟨i + 1,1,os ++ [lo],by omega,by go_num,rfl,by omega,by rw [List.length_append,HOL.out]; rfl,own_cast hown (by simp [encD]) rfl,hgrew.extNew X HO (Nat.le_refl _),HI2⟩
        case measure => simp [intOf]; omega
      · rw [show bor d m bo=0 from if_neg hb] at hi2
        have HI2:Hid ((os ++ [lo]) ++ subL (ds.drop (i + 1)) (ms.drop (i + 1)) 0=F):=by show _=_; rw [List.append_assoc]; exact hi2
        have e3:(d:Int) - (bo:Int) - (m:Int)=(lo:Int):=by omega
        have hlo9:(lo:Int) ≤ 4294967295:=by omega
        clear hi2 hlo hc0 hc02 hb
        go_wp2_with (at_builtin; refine wp_app1 (s:=.tmp 39) (x:=.tmp 42) (y:=.int .u32 lo) rfl rfl ei_nat HO rfl rfl rfl rfl (by omega) (by omega) (by omega) ?_; intro v' w' hown hgrew)
        go_roundw
        case rel => exact ⟨i + 1,0,os ++ [lo],by omega,by go_num,rfl,by omega,by rw [List.length_append,HOL.out]; rfl,own_cast hown (by simp [encD]) rfl,hgrew.extNew X HO (Nat.le_refl _),HI2⟩
        case measure => simp [intOf]; omega
    · have hmk:(ms.length:Int) ≤ (i:Int):=by omega
      have hi2:=HI.out
      rw [d2.out,List.drop_eq_nil_of_le (by omega:ms.length ≤ i),subL] at hi2
      simp only [List.headD_nil,List.tail_nil,Nat.sub_zero] at hi2
      obtain ⟨lo,hlo⟩:∃ lo,(d + 4294967296 - bo) % 4294967296=lo:=⟨_,rfl⟩
      rw [hlo] at hi2
      by_cases hb:d < bo + 0
      · rw [show bor d 0 bo=1 from if_pos hb] at hi2
        have HI2:Hid ((os ++ [lo]) ++ subL (ds.drop (i + 1)) (ms.drop (i + 1)) 1=F):=by
         show _=_
         rw [List.append_assoc,List.drop_eq_nil_of_le (by omega:ms.length ≤ i + 1)]; exact hi2
        have e4:(d:Int) - (bo:Int) < 0:=by omega
        have e3:(d:Int) - (bo:Int) + 4294967296=(lo:Int):=by omega
        have hlo9:(lo:Int) ≤ 4294967295:=by omega
        clear hi2 hlo hc0 hb
        go_wp2_with (at_builtin; refine wp_app1 (s:=.tmp 39) (x:=.tmp 42) (y:=.int .u32 lo) rfl rfl ei_nat HO rfl rfl rfl rfl (by omega) (by omega) (by omega) ?_; intro v' w' hown hgrew)
        go_roundw
        case rel => exact ⟨i + 1,1,os ++ [lo],by omega,by go_num,rfl,by omega,by rw [List.length_append,HOL.out]; rfl,own_cast hown (by simp [encD]) rfl,hgrew.extNew X HO (Nat.le_refl _),HI2⟩
        case measure => simp [intOf]; omega
      · rw [show bor d 0 bo=0 from if_neg hb] at hi2
        have HI2:Hid ((os ++ [lo]) ++ subL (ds.drop (i + 1)) (ms.drop (i + 1)) 0=F):=by
         show _=_
         rw [List.append_assoc,List.drop_eq_nil_of_le (by omega:ms.length ≤ i + 1)]; exact hi2
        have e3:(d:Int) - (bo:Int)=(lo:Int):=by omega
        have hlo9:(lo:Int) ≤ 4294967295:=by omega
        clear hi2 hlo hc0 hb
        go_wp2_with (at_builtin; refine wp_app1 (s:=.tmp 39) (x:=.tmp 42) (y:=.int .u32 lo) rfl rfl ei_nat HO rfl rfl rfl rfl (by omega) (by omega) (by omega) ?_; intro v' w' hown hgrew)
        go_roundw
        case rel => exact ⟨i + 1,0,os ++ [lo],by omega,by go_num,rfl,by omega,by rw [List.length_append,HOL.out]; rfl,own_cast hown (by simp [encD]) rfl,hgrew.extNew X HO (Nat.le_refl _),HI2⟩
        case measure => simp [intOf]; omega
  · have hil:i=ds.length:=by omega
    subst hil
    have hi2:=HI.out
    rw [List.drop_length,subL,List.append_nil] at hi2
    have hval:Hid (val os=val ds - val ms):=by show _=_; rw [hi2,← HF.out,val_subL ds ms 0 HD.out HM.out hml (by omega) HLE.out]; rfl
    have hdg:Hid (Dg os):=by show Dg _; rw [hi2,← HF.out]; exact dg_subL ds ms 0
    clear hi2
    go_wp2_with fail
    refine (norm_own _ _ os _ HO (by omega) hdg.out).mono ?_
    rintro e w3 ⟨u,rfl,hn,_,rfl⟩
    go_wp2_with fail
    go_ret
    exact ⟨u,rfl,by rw [← hval.out]; exact hn,X⟩
theorem sub_any (v u:Value) (n m:Nat) (w:World) (hv:NatV w v n) (hu:NatV w u m) (hl:(dig n).length ≤ 1073741824) (hle:m ≤ n) :
 Calls Tryz.prog 152 #[v,u] w fun e w' => ∃ r,e=.returned r ∧ NatV w' r (n - m) ∧ Ext w w':=by
 have:=sub_le v u (dig n) (dig m) w hv hu (dig_dg n) (dig_dg m) (dig_len_le hle) hl (by rw [val_dig,val_dig]; exact hle)
 rw [val_dig,val_dig] at this
 exact this
theorem wraps64:∀ n:Int,0 ≤ n → n < 2 ^ 64 → IntKind.u64.wrap n=n:=by
 intro n h0 h1
 have h1:n < 18446744073709551616:=h1
 simp [IntKind.wrap,IntKind.bits,IntKind.signed]
 omega
theorem wraps32:∀ n:Int,0 ≤ n → n < 2 ^ 32 → IntKind.u32.wrap n=n:=by
 intro n h0 h1
 have h1:n < 4294967296:=h1
 simp [IntKind.wrap,IntKind.bits,IntKind.signed]
 omega
theorem or64_hi (a b:Nat) (ha:a < 4294967296) (hb:b < 4294967296):bits .or .u64 ((a:Int) * 4294967296) (b:Int)=(a:Int) * 4294967296 + (b:Int) :=
 bits_join .u64 64 (by decide) wraps64 32 _ _ (by omega) (by omega) (by omega) (by omega) (by omega) (by omega)
set_option maxHeartbeats 1600000 in
set_option maxRecDepth 100000 in
theorem divSmall_any (v:Value) (ds:List Nat) (x:Nat) (w:World) (hv:Digs w v ds) (hd:Dg ds) (hx:x < 4294967296) (hx0:0 < x) (hl:ds.length ≤ 1073741824) :
 Calls Tryz.prog 162 #[v,.int .u32 x] w fun e w' => ∃ u,e=.returned (.tuple #[u,.int .u32 ((divL x ds).2:Nat)]) ∧ NatV w' u (val (divL x ds).1) ∧ Fr w.heap.size u ((dig (val (divL x ds).1)).map encD) ∧ Ext w w':=by
 obtain ⟨wo,rfl⟩:∃ wo:World,wo=w:=⟨_,rfl⟩
 obtain ⟨ao,c,rfl,hlen,hc⟩:=hv.open
 have HC:=Lib.hid hc
 have HD:=Lib.hid hd
 have hxi:(x:Int) ≤ 4294967295:=by omega
 have hxn:¬ (x:Int)=0:=by omega
 clear hc hd hv
 go_enter Tryz.func162,Tryz.ntmps162
 go_wp2_with (first
  | (at_make; refine wp_make1 rfl rfl ei_nat rfl rfl rfl ds.length rfl rfl (by omega) (by omega) ?_; intro w2 hO2 hX2))
 go_loopw [7,8] (fun rv iv wr => ∃ (k r:Nat) (qs:List Nat),k ≤ ds.length ∧ iv=.int .i64 ((k:Int) - 1) ∧ rv=.int .u64 r ∧ r < x ∧ Hid (divL x (ds.drop k)=(qs,r)) ∧ wr.ownsRow wo.heap.size 167 1 (.slice (some ⟨wo.heap.size,0,none⟩) ds.length ds.length) ds.length ((List.replicate k 0 ++ qs).map encD) ∧ Ext wo wr) (fun _ iv _ => ((intOf iv) + 1).toNat)
 case atStart => exact ⟨ds.length,0,[],Nat.le_refl _,rfl,rfl,hx0,by show _=_; rw [List.drop_length]; rfl,own_cast hO2 (by simp [encD]) rfl,hX2⟩
 case round =>
  obtain ⟨k,r,qs,hk,rfl,rfl,hr,HI,HO,X⟩:=hrel
  have hri:(r:Int) ≤ 4294967295:=by omega
  by_cases h0:k=0
  · subst h0
    have hi2:=HI.out
    rw [List.drop_zero] at hi2
    have hq:Hid (NatV wr (.slice (some ⟨wo.heap.size,0,none⟩) ds.length ds.length) (val qs) → True):=fun _ => trivial
    have hdg:Hid (Dg qs):=by
     show Dg _
     have:=divL_dg hx0 ds HD.out
     rw [hi2] at this; exact this
    have HOq:wr.ownsRow wo.heap.size 167 1 (.slice (some ⟨wo.heap.size,0,none⟩) ds.length ds.length) ds.length (qs.map encD):=own_cast HO (by simp) rfl
    have hr32:(r:Int) % 4294967296=(r:Int):=by omega
    have HI3:=Lib.hid hi2
    clear hi2 hq
    go_wp2_with fail
    refine (norm_own _ _ qs _ HOq (by omega) hdg.out).mono ?_
    rintro e w3 ⟨u,rfl,hn,hfr,rfl⟩
    go_wp2_with fail
    go_ret2
    exact ⟨u,by rw [HI3.out]; rfl,by rw [HI3.out]; exact hn,by rw [HI3.out]; exact hfr,X⟩
  · obtain ⟨j,rfl⟩:∃ j,k=j + 1:=⟨k - 1,by omega⟩
    obtain ⟨d,d1,d2,d3⟩:=get_lt (show j < ds.length by omega)
    obtain ⟨b,off,rfl,hc0⟩:=(HC.out.ext X).at d1
    have hcell:wr.cell? ⟨b,off + j,none⟩=some (.int .u32 d):=hc0
    have hdl:=HD.out.at d1.out
    have hdi:(d:Int) ≤ 4294967295:=by omega
    have hki:(j:Int) < (ds.length:Int):=by omega
    have eor:=or64_hi r d (by omega) hdl
    obtain ⟨s,hs⟩:∃ s,r * 4294967296 + d=s:=⟨_,rfl⟩
    rw [show (r:Int) * 4294967296 + (d:Int)=(s:Int) by omega] at eor
    obtain ⟨q,hq⟩:∃ q,s / x=q:=⟨_,rfl⟩
    obtain ⟨r2,hr2⟩:∃ r2,s % x=r2:=⟨_,rfl⟩
    have edv:(s:Int).tdiv (x:Int)=(q:Int):=by rw [← hq]; exact (Int.ofNat_tdiv s x).symm
    have emd:(s:Int).tmod (x:Int)=(r2:Int):=by rw [← hr2]; exact (Int.ofNat_tmod s x).symm
    have hq9:q < 4294967296:=by
     rw [← hq]
     apply Nat.div_lt_of_lt_mul
     have:=Nat.mul_le_mul_right 4294967296 (show r + 1 ≤ x from hr)
     rw [Nat.add_mul] at this; omega
    have hqi:(q:Int) ≤ 4294967295:=by omega
    have hqm:(q:Int) % 4294967296=(q:Int):=by omega
    have hr9:r2 < x:=by rw [← hr2]; exact Nat.mod_lt _ hx0
    have HI2:Hid (divL x (ds.drop j)=(q :: qs,r2)):=by
     show _=_
     rw [d2.out,divL,HI.out]
     simp only
     rw [hs,hq,hr2]
    have c1:=own_cell HO (j:=j) (x:=.int .u32 0) (by show _=_; rw [List.map_append,List.map_replicate,List.getElem?_append_left (by simp),List.getElem?_replicate,if_pos (by omega)]; rfl)
    have f1:=HO.frozenAt j
    have s1:=HO.stored j (.int .u32 q)
    have hset:((List.replicate (j + 1) 0 ++ qs).map encD).set j (.int .u32 q)=(List.replicate j 0 ++ (q :: qs)).map encD:=by
     rw [List.replicate_succ',List.append_assoc,List.map_append,List.set_append_right _ _ (by simp)]
     simp [encD]
    rw [hset] at s1
    have H1:=Lib.hid s1.1
    clear hc0 h0 hs hq hr2 s1 hset
    go_wp2_with fail
    go_roundw
    case rel => exact ⟨j,r2,q :: qs,by omega,rfl,rfl,hr9,HI2,H1.out,X.setCell (Nat.le_refl _) _⟩
    case measure => simp [intOf]
theorem take_set_succ {xs:List Nat} {j x:Nat} (h:j < xs.length):(xs.set j x).take (j + 1)=xs.take j ++ [x]:=by
 have h1:j < (xs.set j x).length:=by rw [List.length_set]; exact h
 rw [List.take_succ_eq_append_getElem h1,List.getElem_set_self,List.take_set_of_le (Nat.le_refl _)]
theorem drop_set_succ {xs:List Nat} {j x:Nat}:(xs.set j x).drop (j + 1)=xs.drop (j + 1):=by
 rw [List.drop_set_of_lt (by omega)]
theorem set_map (xs:List Nat) (j x:Nat):(xs.map encD).set j (.int .u32 x)=(xs.set j x).map encD:=by
 rw [List.map_set]; rfl
theorem dg_set {xs:List Nat} {j x:Nat} (h:Dg xs) (hx:x < 4294967296):Dg (xs.set j x):=fun y hy => by
 rcases List.mem_or_eq_of_mem_set hy with h1 | h1
 · exact h y h1
 · subst h1; exact hx
theorem split_mid {T gs:List Nat} {g i:Nat} (h:T.length=i):(T ++ g :: gs).take (i + 1)=T ++ [g] ∧ (T ++ g :: gs).drop (i + 1)=gs:=by
 have e1:T ++ g :: gs=(T ++ [g]) ++ gs:=by rw [List.append_assoc]; rfl
 have hTg:(T ++ [g]).length=i + 1:=by rw [List.length_append,h]; rfl
 rw [e1]
 exact ⟨List.take_left' hTg,List.drop_left' hTg⟩
set_option maxHeartbeats 3200000 in
set_option maxRecDepth 100000 in
theorem mul_le (v u:Value) (ds ms:List Nat) (w:World) (hv:Digs w v ds) (hu:Digs w u ms) (hd:Dg ds) (hm:Dg ms) (hl:ds.length ≤ 1073741824) (hl2:ms.length ≤ 1073741824) :
 Calls Tryz.prog 122 #[v,u] w fun e w' => ∃ r,e=.returned r ∧ NatV w' r (val ds * val ms) ∧ Ext w w':=by
 obtain ⟨wo,rfl⟩:∃ wo:World,wo=w:=⟨_,rfl⟩
 obtain ⟨F,hF⟩:∃ F,mulOut ms ds (List.replicate (ds.length + ms.length) 0)=F:=⟨_,rfl⟩
 obtain ⟨L,hL⟩:∃ L,ds.length + ms.length=L:=⟨_,rfl⟩
 have hLi:(ds.length:Int) + (ms.length:Int)=(L:Int):=by omega
 have hL9:L ≤ 2147483648:=by omega
 obtain ⟨ao,c,rfl,hlen,hc⟩:=hv.open
 obtain ⟨ao2,c2,rfl,hlen2,hc2⟩:=hu.open
 rw [hL] at hF
 have HF:=Lib.hid hF
 have HL:=Lib.hid hL
 have HC:=Lib.hid hc
 have HC2:=Lib.hid hc2
 have HD:=Lib.hid hd
 have HM:=Lib.hid hm
 clear hF hc hd hv hc2 hm hu hL
 go_enter Tryz.func122,Tryz.ntmps122
 go_wp2_with (first
  | (at_make; refine wp_make1 rfl rfl ei_nat rfl rfl rfl L rfl rfl (by omega) (by omega) ?_; intro w2 hO2 hX2))
 clear hLi
 go_loopw [19] (fun iv wr => ∃ (i:Nat) (os:List Nat),i ≤ ds.length ∧ iv=.int .i64 i ∧ os.length=L ∧ Hid (Dg os) ∧ wr.ownsRow wo.heap.size 167 1 (.slice (some ⟨wo.heap.size,0,none⟩) L L) L (os.map encD) ∧ Ext wo wr ∧ Hid (os.take i ++ mulOut ms (ds.drop i) (os.drop i)=F)) (fun iv _ => ds.length - (intOf iv).toNat)
 case atStart => exact ⟨0,List.replicate L 0,Nat.zero_le _,rfl,by simp,Dg.zeros L,own_cast hO2 (by simp [encD]) rfl,hX2,HF.out⟩
 case round =>
  obtain ⟨i,os,hi,rfl,hol,HDO,HO,X,HI⟩:=hrel
  have HOL:=Lib.hid hol
  clear hol
  obtain ⟨wr0,rfl⟩:∃ wr0:World,wr0=wr:=⟨_,rfl⟩
  by_cases hlt:i < ds.length
  · obtain ⟨a,a1,a2,a3⟩:=get_lt hlt
    obtain ⟨b,off,rfl,hc0⟩:=(HC.out.ext X).at a1
    have hcell:wr0.cell? ⟨b,off + i,none⟩=some (.int .u32 a):=hc0
    have hal:=HD.out.at a1.out
    have hai:(a:Int) ≤ 4294967295:=by omega
    have hki:(i:Int) < (ds.length:Int):=by omega
    have hiL:i + ms.length < L:=by have:=HL.out; omega
    have hiLi:(i:Int) + (ms.length:Int) < (L:Int):=by omega
    obtain ⟨G,hG⟩:∃ G,mulIn a ms (os.drop i) 0=G:=⟨_,rfl⟩
    have hi2:=HI.out
    rw [a2.out,mulOut,hG] at hi2
    have hGl:G.length=L - i:=by rw [← hG,mulIn_len a ms (os.drop i) 0 (by rw [List.length_drop,HOL.out]; omega),List.length_drop,HOL.out]
    have HG:=Lib.hid hG
    have HGL:=Lib.hid hGl
    have HI2:=Lib.hid hi2
    have HTK:=Lib.hid (show (os.take i).length=i by rw [List.length_take,HOL.out]; omega)
    obtain ⟨T,hT⟩:∃ T,os.take i=T:=⟨_,rfl⟩
    rw [hT] at HI2 HTK
    have HT:=Lib.hid hT
    clear hG hi2 hGl hc0 hT
    go_wp2_with fail
    go_loopw [8,26] (fun cv jv wr => ∃ (j cr:Nat) (xs:List Nat),j ≤ ms.length ∧ jv=.int .i64 j ∧ cv=.int .u64 cr ∧ cr < 4294967296 ∧ xs.length=L ∧ Hid (Dg xs) ∧ wr.ownsRow wo.heap.size 167 1 (.slice (some ⟨wo.heap.size,0,none⟩) L L) L (xs.map encD) ∧ Ext wo wr ∧ Hid (xs.take (i + j) ++ mulIn a (ms.drop j) (xs.drop (i + j)) cr=T ++ G)) (fun _ jv _ => ms.length - (intOf jv).toNat)
    case atStart => exact ⟨0,0,os,Nat.zero_le _,rfl,rfl,by omega,HOL.out,HDO,HO,X,by show _=_; rw [Nat.add_zero,HT.out,List.drop_zero,HG.out]⟩
    case round =>
     obtain ⟨j,cr,xs,hj,rfl,rfl,hcr,hxl,HDX,HOX,XX,HIX⟩:=hrel
     have HXL:=Lib.hid hxl
     clear hxl
     have hci:(cr:Int) ≤ 4294967295:=by omega
     by_cases hjm:j < ms.length
     · obtain ⟨m,m1,m2,m3⟩:=get_lt hjm
       obtain ⟨b2,off2,rfl,hc02⟩:=(HC2.out.ext XX).at m1
       have hcell2:wr.cell? ⟨b2,off2 + j,none⟩=some (.int .u32 m):=hc02
       have hml:=HM.out.at m1.out
       have hmi:(m:Int) ≤ 4294967295:=by omega
       have hjk:(j:Int) < (ms.length:Int):=by omega
       obtain ⟨t,ht⟩:∃ t,i + j=t:=⟨_,rfl⟩
       have hti:(i:Int) + (j:Int)=(t:Int):=by omega
       have htL:t < L:=by omega
       have htLi:(t:Int) < (L:Int):=by omega
       obtain ⟨o,o1,o2,o3⟩:=get_lt (xs:=xs) (k:=t) (by rw [HXL.out]; exact htL)
       have c1:=own_cell HOX (j:=t) (x:=.int .u32 o) (by show _=_; rw [List.getElem?_map,o1.out]; rfl)
       have hol:=HDX.out.at o1.out
       have hoi:(o:Int) ≤ 4294967295:=by omega
       have f1:=HOX.frozenAt t
       obtain ⟨p,hp⟩:∃ p,a * m=p:=⟨_,rfl⟩
       have hcar:=mulIn_carry hal hml hol hcr
       rw [hp] at hcar
       have e1:(a:Int) * (m:Int)=(p:Int):=by rw [← hp,Int.natCast_mul]
       obtain ⟨lo,hlo⟩:∃ lo,(cr + (p + o)) % 4294967296=lo:=⟨_,rfl⟩
       obtain ⟨hh,hhi⟩:∃ hh,(cr + (p + o)) / 4294967296=hh:=⟨_,rfl⟩
       rw [hhi] at hcar
       have hp9:p ≤ 18446744065119617025:=by rw [← hp]; exact Nat.mul_le_mul (show a ≤ 4294967295 by omega) (show m ≤ 4294967295 by omega)
       have b1:(p:Int) ≤ 18446744073709551615:=by omega
       have b2:(p:Int) + (o:Int) ≤ 18446744073709551615:=by omega
       have b3:(cr:Int) + ((p:Int) + (o:Int)) ≤ 18446744073709551615:=by omega
       have e2:((cr:Int) + ((p:Int) + (o:Int))) % 4294967296=(lo:Int):=by omega
       have e3:((cr:Int) + ((p:Int) + (o:Int))) / 4294967296=(hh:Int):=by omega
       have hlo9:lo < 4294967296:=by omega
       have hstep:Hid ((xs.set t lo).take (t + 1) ++ mulIn a (ms.drop (j + 1)) ((xs.set t lo).drop (t + 1)) hh=T ++ G):=by
        show _=_
        have h:=HIX.out
        rw [ht,m2.out,o2.out,mulIn] at h
        simp only [List.headD_cons,List.tail_cons] at h
        rw [hp,hlo,hhi] at h
        rw [take_set_succ (by rw [HXL.out]; exact htL),drop_set_succ,List.append_assoc]
        exact h
       have s1:=HOX.stored t (.int .u32 lo)
       rw [set_map] at s1
       have H1:=Lib.hid s1.1
       have HDX2:Hid (Dg (xs.set t lo)):=dg_set HDX.out hlo9
       have HTT:=Lib.hid ht
       clear hc02 hp hlo hhi s1 ht hjm
       go_wp2_with fail
       go_roundw
       case rel => exact ⟨j + 1,hh,xs.set t lo,by omega,by go_num,rfl,hcar.2,by rw [List.length_set]; exact HXL.out,HDX2,H1.out,XX.setCell (Nat.le_refl _) _,by
        show _=_
        rw [show i + (j + 1)=t + 1 from by have:=HTT.out; omega]; exact hstep.out⟩
       case measure => simp [intOf]; omega
     · have hjl:j=ms.length:=by omega
       subst hjl
       obtain ⟨t,ht⟩:∃ t,i + ms.length=t:=⟨_,rfl⟩
       have hti:(i:Int) + (ms.length:Int)=(t:Int):=by omega
       have htL:t < L:=by omega
       have htLi:(t:Int) < (L:Int):=by omega
       obtain ⟨o,o1,o2,o3⟩:=get_lt (xs:=xs) (k:=t) (by rw [HXL.out]; exact htL)
       have c1:=own_cell HOX (j:=t) (x:=.int .u32 o) (by show _=_; rw [List.getElem?_map,o1.out]; rfl)
       have f1:=HOX.frozenAt t
       have hcm:(cr:Int) % 4294967296=(cr:Int):=by omega
       have hfin:xs.set t cr=T ++ G:=by
        have h:=HIX.out
        rw [ht,List.drop_length,o2.out,mulIn] at h
        simp only [List.tail_cons] at h
        rw [← h,← List.take_append_drop (t + 1) (xs.set t cr),take_set_succ (by rw [HXL.out]; exact htL),drop_set_succ,List.append_assoc]; rfl
       have s1:=HOX.stored t (.int .u32 cr)
       rw [set_map] at s1
       have H1:=Lib.hid s1.1
       have HDX2:Hid (Dg (xs.set t cr)):=dg_set HDX.out hcr
       have hstep:Hid ((xs.set t cr).take (i + 1) ++ mulOut ms (ds.drop (i + 1)) ((xs.set t cr).drop (i + 1))=F):=by
        show _=_
        have h:=HI2.out
        cases hGc:G with
        | nil => rw [hGc] at HGL; have:=HGL.out; simp at this; omega
        | cons g gs =>
          rw [hGc] at h
          simp only [List.headD_cons,List.tail_cons] at h
          obtain ⟨q1,q2⟩:=split_mid (g:=g) (gs:=gs) HTK.out
          rw [hfin,hGc,q1,q2,List.append_assoc]
          exact h
       clear s1 ht hfin hjm
       go_wp2_with fail
       go_roundw
       case rel => exact ⟨i + 1,xs.set t cr,by omega,by go_num,by rw [List.length_set]; exact HXL.out,HDX2,H1.out,XX.setCell (Nat.le_refl _) _,hstep⟩
       case measure => simp [intOf]; omega
  · have hil:i=ds.length:=by omega
    subst hil
    have hi2:=HI.out
    rw [List.drop_length,mulOut,List.take_append_drop] at hi2
    have hval:Hid (val os=val ds * val ms):=by
     show _=_
     rw [hi2,← HF.out,mulOut_val ds _ (by rw [List.length_replicate]; have:=HL.out; omega) (fun k _ => by rw [List.getD,List.getElem?_replicate]; split <;> rfl),val_zeros]; rfl
    clear hi2
    go_wp2_with fail
    refine (norm_own _ _ os _ HO (by omega) HDO.out).mono ?_
    rintro e w3 ⟨u,rfl,hn,_,rfl⟩
    go_wp2_with fail
    go_ret
    exact ⟨u,rfl,by rw [← hval.out]; exact hn,X⟩
theorem mul_any (v u:Value) (n m:Nat) (w:World) (hv:NatV w v n) (hu:NatV w u m) (hl:(dig n).length ≤ 1073741824) (hl2:(dig m).length ≤ 1073741824) :
 Calls Tryz.prog 122 #[v,u] w fun e w' => ∃ r,e=.returned r ∧ NatV w' r (n * m) ∧ Ext w w':=by
 have:=mul_le v u (dig n) (dig m) w hv hu (dig_dg n) (dig_dg m) hl hl2
 rw [val_dig,val_dig] at this
 exact this
end Go.Proofs.YtcggohkbmhdohaaGreatDoor
