/- texts merged: Big7 Big8 -/
import Derived.Test.YtcggohkbmhdohaaGreatDoorWkA
import Derived.Test.YtcggohkbmhdohaaGreatDoorPlA
import Derived.Test.YtcggohkbmhdohaaGreatDoorShelf
import Derived.Laws.IdiomCopy
import Derived.Lib.LazyBuf
import Derived.Lib.AppendIntMem
import Derived.Lib.SmallJoins
namespace Go.Proofs.YtcggohkbmhdohaaGreatDoor
open Go.RowKit
set_option linter.unusedVariables false
theorem ext_take (s:ByteArray) (k:Nat):(s.extract 0 k).data.toList=s.data.toList.take k:=by
 rw [ByteArray.data_extract,Array.toList_extract,List.extract_eq_take_drop,List.drop_zero,Nat.sub_zero]
theorem ext_drop (s:ByteArray) (k:Nat):(s.extract k s.size).data.toList=s.data.toList.drop k:=by
 rw [ByteArray.data_extract,Array.toList_extract,List.extract_eq_take_drop,List.take_of_length_le]
 rw [List.length_drop,Array.length_toList]; exact Nat.le_refl _
theorem bsz (s:ByteArray):s.data.toList.length=s.size:=Array.length_toList
theorem pow10_le {j:Nat} (h:j ≤ 9):10 ^ j ≤ 1000000000:=Nat.pow_le_pow_right (by omega) h
abbrev strZ (v:Value):Nat:=match v with
 | .string b => b.size
 | _ => 0
theorem natV_nil (w:World):NatV w (.slice none 0 0) 0:=by
 show Row w _ ((dig 0).map encD)
 rw [dig_zero]; exact Row.nil w
theorem bw_or {w w':World} {e:TypeId} {s:ByteArray} (h:w'=w ∨ w'=Lib.bytesWorld w e s):Ext w w':=by
 rcases h with rfl | rfl
 · exact Ext.refl _
 · exact Lib.bytesWorld_below _ _ _
set_option maxHeartbeats 3200000 in
set_option maxRecDepth 100000 in
theorem read_any (s:ByteArray) (w:World) (hs:s.size ≤ 4294967295) (hd:AllD s.data.toList) (hF9:(dig (decF 0 s.data.toList)).length ≤ 1073741824) :
 Calls Tryz.prog 126 #[.string s] w fun e w' => ∃ u,e=.returned u ∧ NatV w' u (decF 0 s.data.toList) ∧ Ext w w':=by
 obtain ⟨wo,rfl⟩:∃ wo:World,wo=w:=⟨_,rfl⟩
 obtain ⟨F,hF⟩:∃ F,decF 0 s.data.toList=F:=⟨_,rfl⟩
 rw [hF] at hF9 ⊢
 have HF:=Lib.hid hF
 have HD:=Lib.hid hd
 have HF9:=Lib.hid hF9
 clear hF hd hF9
 go_enter Tryz.func126,Tryz.ntmps126
 go_wp2_with fail
 go_loopw [0,3] (fun sv o wr => ∃ (r:ByteArray) (n:Nat),sv=.string r ∧ r.size ≤ 4294967295 ∧ Hid (AllD r.data.toList) ∧ NatV wr o n ∧ Ext wo wr ∧ Hid (decF n r.data.toList=F)) (fun sv _ _ => strZ sv)
 case atStart => exact ⟨s,0,rfl,hs,HD.out,natV_nil wo,Ext.refl _,HF.out⟩
 case round =>
  obtain ⟨r,n,rfl,hrs,HR,HN,X,HI⟩:=hrel
  obtain ⟨wr0,rfl⟩:∃ wr0:World,wr0=wr:=⟨_,rfl⟩
  have hrsi:(r.size:Int) ≤ 4294967295:=by omega
  by_cases h0:r.size=0
  · have hn:n=F:=by
     have h:=HI.out
     have e0:r.data.toList=[]:=List.eq_nil_of_length_eq_zero (by rw [bsz]; exact h0)
     rw [e0,decF_nil] at h
     exact h
    subst hn
    go_wp2_with fail
    go_ret
    exact ⟨_,rfl,HN,X⟩
  · obtain ⟨k,hk,hk1,hk9,hks⟩:∃ k,k=min r.size 9 ∧ 1 ≤ k ∧ k ≤ 9 ∧ k ≤ r.size:=⟨_,rfl,by omega,by omega,by omega⟩
    have hmin:(r.size ≤ 9 ∧ k=r.size) ∨ (9 < r.size ∧ k=9):=by omega
    obtain ⟨C,hC⟩:∃ C,r.extract 0 k=C:=⟨_,rfl⟩
    obtain ⟨R,hR⟩:∃ R,r.extract k r.size=R:=⟨_,rfl⟩
    have hCl:C.data.toList=r.data.toList.take k:=by rw [← hC,ext_take]
    have hRl:R.data.toList=r.data.toList.drop k:=by rw [← hR,ext_drop]
    have hCD:AllD C.data.toList:=by rw [hCl]; exact HR.out.take k
    have hRD:Hid (AllD R.data.toList):=by show AllD _; rw [hRl]; exact HR.out.drop k
    have hClen:C.data.toList.length=k:=by rw [hCl,List.length_take,bsz]; omega
    have hRs:R.size < r.size:=by rw [← bsz R,hRl,List.length_drop,bsz]; omega
    obtain ⟨x,hx⟩:∃ x,decF 0 C.data.toList=x:=⟨_,rfl⟩
    have hPU:=Tryz.strconv_ParseUint_10_at32_ok C (by rw [← bsz C,hClen]; omega) x (by rw [← hx]; exact parse32_ok hCD (by intro e; rw [e] at hClen; simp at hClen; omega) (by omega))
    have hxlt:x < 10 ^ k:=by rw [← hx,← hClen]; exact decF_lt hCD
    have hp9:=pow10_le hk9
    have hx9:x < 4294967296:=by omega
    have hxi:(x:Int) ≤ 4294967295:=by omega
    have hxm:(x:Int) % 4294967296=(x:Int):=by omega
    have hnext:Hid (decF (n * 10 ^ k + x) R.data.toList=F):=by
     show _=_
     rw [← HI.out,← List.take_append_drop k r.data.toList,decF_append,← hCl,← hRl,decF_split C.data.toList n,hClen,hx]
    have hnF:n ≤ F:=by rw [← HI.out]; exact decF_ge _ _
    have hdn:(dig n).length ≤ 1073741824:=Nat.le_trans (dig_len_le hnF) HF9.out
    have HPU:=Lib.hid hPU
    have HMA:=Lib.hid (fun (o:Value) (W:World) (ho:NatV W o n) => mulAdd_any o (dig n) (10 ^ k) x W ho (dig_dg n) (by omega) hx9 hdn)
    rw [val_dig] at HMA
    have hki1:(1:Int) ≤ (k:Int):=by omega
    have hki9:(k:Int) ≤ 9:=by omega
    have hkis:(k:Int) ≤ (r.size:Int):=by omega
    clear hPU hCl hRl hCD hClen hx hxlt hk
    have hmn:min (r.size:Int) 9=(k:Int):=by omega
    have hks1:Hid (1 ≤ k):=hk1
    have hks9:Hid (k ≤ 9):=hk9
    clear hmin h0 hk1 hk9 hp9
    go_wp2_with fail
    refine (HPU.out _).mono ?_
    rintro e w2 ⟨rfl,hw⟩
    have X2:=bw_or hw
    clear hw
    go_wp2_with fail
    go_loopw [7,22] (fun pv jv wr => ∃ (j p:Nat),j ≤ k ∧ jv=.int .i64 j ∧ pv=.int .u32 p ∧ Hid (10 ^ j=p) ∧ wr=w2) (fun _ jv _ => k - (intOf jv).toNat)
    case atStart => exact ⟨0,1,Nat.zero_le _,rfl,rfl,rfl,rfl⟩
    case round =>
     obtain ⟨j,p,hj,rfl,rfl,HP,rfl⟩:=hrel
     by_cases hjk:j < k
     · have hji:(j:Int) < (k:Int):=by omega
       have hp8:p ≤ 100000000:=by
        rw [← HP.out]
        have h9:=hks9.out
        exact Nat.pow_le_pow_right (show 0 < 10 by omega) (show j ≤ 8 by omega)
       have hpi:(p:Int) ≤ 100000000:=by omega
       go_wp2_with fail
       go_roundw
       case rel => exact ⟨j + 1,p * 10,by omega,by go_num,by go_num,by show _=_; rw [Nat.pow_succ,HP.out],trivial⟩
       case measure => simp [intOf]; omega
     · obtain rfl:j=k:=by omega
       have hpw:Hid (p=10 ^ j):=HP.out.symm
       have hMM:=HMA.out _ wr (HN.ext X2)
       rw [← hpw.out] at hMM
       have hMM:=Lib.hid hMM
       go_wp2_with fail
       refine hMM.out.mono ?_
       rintro e w3 ⟨u,rfl,hu,X3⟩
       go_wp2_with fail
       go_roundw
       case rel => exact ⟨R,n * p + x,rfl,by omega,hRD.out,hu,(X.trans X2).trans X3,by show _=_; rw [hpw.out]; exact hnext.out⟩
       case measure => simp [strZ]; omega
abbrev TabPow (w : World) : Prop := Lib.TabIs Tryz.prog w "internal/strconv.uint64pow10" .u64 Lib.pow10Tab
theorem var_ext {P:Program} {w w':World} {n:String} {cs:Array Value} (h:w.var? P n=some cs) (he:Ext w w'):w'.var? P n=some cs:=by
 cases hg:P.globalNamed n with
 | none => simp [World.var?,hg] at h
 | some g => exact Joins.var_stays hg h he (Nat.le_refl _)
theorem tabPow_ext {w w':World} (h:TabPow w) (he:Ext w w'):TabPow w':=var_ext h he
theorem itoa_any (n:Nat) (h:n ≤ 9223372036854775807) (w:World) (ht:TabPow w) :
 Calls Tryz.prog 163 #[.int .i64 n] w fun e w' => e=.returned (.string (decT n)) ∧ Ext w w':=by
 refine (Tryz.strconv_Itoa n (by omega) (by omega) w ht).mono ?_
 rintro e w' ⟨rfl,k,os,rfl⟩
 rw [Lib.itoa_nonneg]
 exact ⟨rfl,Lib.below_grow _ w (Nat.le_refl _) k os⟩
theorem info_str:(Tryz.prog.info? 9).map (fun i => (i.zero,i.size,i.bytes))=some (some (.string ⟨#[]⟩),1,16):=by kernel_rfl
theorem ei_strs:EI Tryz.prog 207 9 (.string ⟨#[]⟩) 1 16:=⟨Tryz.underlying207,info_parts info_str,rfl,by decide⟩
theorem repeat0_any (k:Nat) (w:World) (hk:k ≤ 9):Calls Tryz.prog 164 #[.string ⟨#[48]⟩,.int .i64 k] w fun e w' => e=.returned (.string ⟨(List.replicate k (48:UInt8)).toArray⟩) ∧ Ext w w':=by
 refine (Tryz.strings_Repeat ⟨#[48]⟩ k w (by omega) (by show 1 * k ≤ _; omega)).mono ?_
 rintro e w' ⟨rfl,hb⟩
 exact ⟨by rw [show (⟨#[48]⟩:ByteArray).data.toList=[48] from rfl,repeat_zero],hb⟩
theorem reverse_own (B g cap:Nat) (ps:List ByteArray) (w0 W:World) (ho:W.ownsRow B 9 1 (.slice (some ⟨g,0,none⟩) ps.length cap) ps.length (ps.map Value.string)) (hl:ps.length ≤ 17592186044416) (hx:Ext w0 W) (hB:w0.heap.size ≤ B) (hBg:B ≤ g) :
 Calls Tryz.prog 165 #[.slice (some ⟨g,0,none⟩) ps.length cap] W fun e w' => e=.returned (.tuple #[]) ∧ Ext w0 w' ∧ (∀ (j:Nat) x,ps.reverse[j]?=some x → w'.cell? ⟨g,0 + j,none⟩=some (.string x)) ∧ W.heap.size=w'.heap.size:=by
 have hc:∀ i,i < ps.length → W.cell? ⟨g,0 + i,none⟩=some (.string (ps.getD i ⟨#[]⟩)):=by
  intro i hi
  rw [Nat.zero_add]
  refine own_cell ho ?_
  show _=_
  rw [List.getElem?_map,List.getElem?_eq_getElem hi,List.getD,List.getElem?_eq_getElem hi]; rfl
 refine (Tryz.slices_Reverse_string_cells g 0 ps.length cap (fun i => ps.getD i ⟨#[]⟩) W (by omega) hc (fun j _ => by rw [Nat.zero_add]; exact ho.frozenAt j)).mono ?_
 rintro e w' ⟨rfl,q,rfl⟩
 refine ⟨rfl,below_setCells (Nat.le_trans hB hBg) _ _ _ (hx.drewN q),?_,?_⟩
 · intro j x hj
   obtain ⟨h1,h2⟩:=List.getElem?_eq_some_iff.1 hj
   have hlen:((Lib.strsOf (fun i => ps.getD i ⟨#[]⟩) ps.length).reverse.map encStr).length=ps.length:=by simp [Lib.strsOf]
   have hjl:j < ps.length:=by simpa using h1
   have:=World.cell?_setCells_in g ((Lib.strsOf (fun i => ps.getD i ⟨#[]⟩) ps.length).reverse.map encStr) 0 (W.drewN q) (fun i hi => by
    have:=hc i (by rw [hlen] at hi; exact hi)
    show (W.cell? _).isSome=true
    rw [this]; rfl) j (by rw [hlen]; exact hjl)
   rw [this]
   congr 1
   rw [← h2,List.getElem_map,List.getElem_reverse,List.getElem_reverse]
   simp only [Lib.strsOf,List.getElem_map,List.getElem_range,encStr]
   congr 1
   have hk:ps.length - 1 - j < ps.length:=by omega
   simp only [List.length_map,List.length_range]
   rw [List.getD,List.getElem?_eq_getElem hk]
   rfl
 · have h1:∀ (vs:List Value) (o:Nat) (w:World),(w.setCells g o vs).heap.size=w.heap.size:=by
    intro vs
    induction vs with
    | nil => intro o w; rfl
    | cons v r ih => intro o w; rw [World.setCells,ih]; simp
   rw [h1]; rfl
end Go.Proofs.YtcggohkbmhdohaaGreatDoor
