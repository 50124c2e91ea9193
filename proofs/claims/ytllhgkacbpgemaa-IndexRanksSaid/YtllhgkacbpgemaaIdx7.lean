/- walks: Placements -/
import Derived.Test.YtllhgkacbpgemaaIdx6
import Derived.Test.YtllhgkacbpgemaaLib2
namespace Go.Proofs.Ytllhgkacbpgemaa
open Go.RowKit

theorem info_row : (Try.prog.info? 22).map (fun i => (i.zero, i.size, i.bytes)) = some (some (.slice none 0 0), 1, 24) := by kernel_rfl
theorem ei_rows : EI Try.prog 30 22 (.slice none 0 0) 1 24 := ⟨Try.underlying30, info_parts info_row, rfl, by decide⟩

/-- naturals as values -/
def encN (n : Nat) : Value := .int .i64 n

/-- those that begin with a kind -/
def blk (s : Nat) (l : List Nat) (c : Nat) : List (List Nat) := if l.getD c 0 = 0 then [] else (plF s (dec1 l c)).map (c :: ·)

theorem plF_blk (s : Nat) (l : List Nat) : plF (s + 1) l = (List.range l.length).flatMap (blk s l) := rfl

theorem blk_len (s : Nat) (l : List Nat) (hl : l.sum = s + 1) (c : Nat) : rIn l (c + 1) = rIn l c + (blk s l c).length := by
  simp only [rIn]
  congr 1
  unfold blk
  split
  · rename_i h
    rw [if_neg (by omega), List.length_map, (plF_all s (dec1 l c) (by have := dec1_sum l c h; omega)).1]
  · rename_i h
    rw [if_pos (by omega)]; rfl

theorem blks_len (s : Nat) (l : List Nat) (hl : l.sum = s + 1) (k : Nat) : ((List.range k).flatMap (blk s l)).length = rIn l k :=
  flatMap_range_len _ (rIn l) rfl k (fun c _ => blk_len s l hl c)

theorem plF_len (s : Nat) : ∀ (l : List Nat), l.sum = s → ∀ xs ∈ plF s l, xs.length = s := by
  induction s with
  | zero => intro l _ xs h; simp [plF] at h; simp [h]
  | succ s ih =>
    intro l hl xs h
    rw [plF_blk, List.mem_flatMap] at h
    obtain ⟨c, _, h⟩ := h
    unfold blk at h
    split at h
    · simp at h
    · rename_i h0
      obtain ⟨ys, hy, rfl⟩ := List.mem_map.1 h
      have := ih (dec1 l c) (by have := dec1_sum l c (by omega); omega) ys hy
      simp [this]

theorem rIn_le (l : List Nat) (h : 0 < l.sum) (k : Nat) (hk : k ≤ l.length) : rIn l k ≤ waysN l := by
  rw [← rIn_all l h]; exact rIn_mono l k l.length hk

set_option maxHeartbeats 4000000 in
set_option maxRecDepth 100000 in
theorem placements_any (s : Nat) : ∀ (v : Value) (l : List Nat) (w : World), Nats w v l → l.length ≤ 7 → l.sum = s → s ≤ 10 →
    Calls Try.prog 17 #[v] w fun e w' => ∃ u, e = .returned u ∧ ∃ us : List Value, w'.ownsRow w.heap.size 22 1 u us.length us ∧ RowsX w.heap.size none w' us ((plF s l).map (·.map encN)) ∧ Ext w w' := by
  induction s with
  | zero =>
    intro v l w hv hl7 hl hs
    obtain ⟨ao, c, rfl, hlen, hc⟩ := hv.open
    have HL := Lib.hid hl
    clear hv hl
    go_enter Try.func17, Try.ntmps17
    go_wp2_with fail
    go_loop [3, 14] (fun s i => ∃ k : Nat, k ≤ l.length ∧ i = .int .i64 k ∧ s = .int .i64 ((l.take k).sum : Nat)) (fun _ i => l.length - (intOf i).toNat)
    case atStart => exact ⟨0, Nat.zero_le _, rfl, rfl⟩
    case round =>
      obtain ⟨k, hk, rfl, rfl⟩ := hrel
      by_cases hlt : k < l.length
      · obtain ⟨x, h1, h2, h3⟩ := get_lt hlt
        obtain ⟨b, off, rfl, hcell⟩ := hc.at h1
        have hb3 : (l.take k).sum + x ≤ 16 := by
          have := sum_take_le l (k + 1)
          rw [h3.out] at this; simp at this; have := HL.out; omega
        go_wp2_with fail
        go_round
        case rel => exact ⟨k + 1, by omega, by go_num, by rw [h3.out]; simp⟩
        case measure => simp [intOf]; omega
      · obtain ⟨_, h1⟩ := get_ge hlt
        have hts : (l.take k).sum = 0 := by rw [h1.out]; exact HL.out
        rw [hts]
        clear hts
        go_wp2_with fail
        go_ret
        refine ⟨_, rfl, [.slice none 0 0], own_lit1 w _ _, ?_, (Ext.refl _).alloc _⟩
        have := (RowsX.nil w.heap.size none (w.alloc (.cells #[.slice none 0 0] 22))).snoc (u := .slice none 0 0) (vs := []) ⟨Row.nil _, .inl rfl⟩ (.inl rfl)
        exact this
  | succ s ih =>
    intro v l w hv hl7 hl hs
    have hv0 := hv
    obtain ⟨ao, c, rfl, hlen, hc⟩ := hv.open
    have hsrc := Lib.hid (hv0.src (fun _ => rfl))
    have HL := Lib.hid hl
    have HIH := Lib.hid ih
    clear hv hv0 hl ih
    have hW : waysN l ≤ 3628800 := by
      have h1 := waysN_le l
      have h2 : fac l.sum ≤ fac 10 := fac_mono (by have := HL.out; omega)
      have h3 : fac 10 = 3628800 := by decide
      omega
    go_enter Try.func17, Try.ntmps17
    go_wp2_with fail
    go_loop [3, 14] (fun s i => ∃ k : Nat, k ≤ l.length ∧ i = .int .i64 k ∧ s = .int .i64 ((l.take k).sum : Nat)) (fun _ i => l.length - (intOf i).toNat)
    case atStart => exact ⟨0, Nat.zero_le _, rfl, rfl⟩
    case round =>
      obtain ⟨k, hk, rfl, rfl⟩ := hrel
      by_cases hlt : k < l.length
      · obtain ⟨x, h1, h2, h3⟩ := get_lt hlt
        obtain ⟨b, off, rfl, hcell⟩ := hc.at h1
        have hb3 : (l.take k).sum + x ≤ 16 := by
          have := sum_take_le l (k + 1)
          rw [h3.out] at this; simp at this; have := HL.out; omega
        go_wp2_with fail
        go_round
        case rel => exact ⟨k + 1, by omega, by go_num, by rw [h3.out]; simp⟩
        case measure => simp [intOf]; omega
      · obtain ⟨_, h1⟩ := get_ge hlt
        have hts : (l.take k).sum = s + 1 := by rw [h1.out]; exact HL.out
        rw [hts]
        have hsz : (((s + 1 : Nat) : Int) == 0) = false := by simp; omega
        clear hts
        go_wp2_with fail
        go_loopw [6, 27] (fun ov iv wr => ∃ (k : Nat) (us : List Value) (xss : List (List Nat)), k ≤ l.length ∧ iv = .int .i64 k ∧ Ext w wr ∧ wr.ownsRow w.heap.size 22 1 ov us.length us ∧
          RowsX w.heap.size ov.ownBlock wr us (xss.map (·.map encN)) ∧ Hid (xss = (List.range k).flatMap (blk s l))) (fun _ iv _ => l.length - (intOf iv).toNat)
        case atStart => exact ⟨0, [], [], Nat.zero_le _, rfl, Ext.refl _, World.ownsRow_nil _ _ _ _, RowsX.nil _ _ _, rfl⟩
        case round =>
          obtain ⟨k, us, xss, hk, rfl, HX, HO, HR, HE⟩ := hrel
          by_cases hlt : k < l.length
          · obtain ⟨x, h1, h2, h3⟩ := get_lt hlt
            obtain ⟨b, off, rfl, _⟩ := hc.at h1
            have hcell := (hc.ext HX).at' h1
            have hgd : l.getD k 0 = x := by simp [List.getD_eq_getElem?_getD, h1.out]
            have HG := Lib.hid hgd; clear hgd
            obtain ⟨wo, rfl⟩ : ∃ wo : World, wo = wr := ⟨_, rfl⟩
            by_cases hx0 : x = 0
            · subst hx0
              go_wp2_with fail
              go_roundw
              case rel => exact ⟨k + 1, us, xss, by omega, by go_num, HX, HO, HR, by rw [HE.out, List.range_succ, List.flatMap_append]; simp [Hid, blk]; intro h; exact absurd HG.out h⟩
              case measure => simp [intOf]; omega
            · have hxz : ((x : Int) == 0) = false := by simp; omega
              have hx16 : x ≤ 16 := by
                have h8 : x ∈ l := List.mem_of_getElem? h1.out
                have := mem_le_sum h8
                have := HL.out
                omega
              have hs2 := Lib.hid (hsrc.out.ext (HX.trans ((Ext.refl wo).alloc (.cells #[] 3))))
              have hk7 : k < 7 := by omega
              have hBs : w.heap.size ≤ wo.heap.size := HX.size
              go_wp2_with (at_builtin; go_must (refine wp_app rfl rfl ei_ints rfl (own_empty wo _) rfl hs2.out (by omega) (by omega) (by simp) ?_); intro v2 w2 hown hgrew; simp only [Nat.zero_add, List.nil_append] at hown; have hX2 : Ext wo w2 := hgrew.extNew ((Ext.refl wo).alloc _) (own_empty wo _) (Nat.le_refl _); obtain ⟨g, cap, rfl, hg1, hg2⟩ := own_open hown (by omega); have c1 := own_cell hown (j := k) (x := .int .i64 x) (by simp [Hid, h1.out]); have f1 := hown.frozenAt k)
              have s1 := hown.stored k (.int .i64 ((x : Int) - 1))
              have hset : (l.map fun (n : Nat) => Value.int .i64 n).set k (.int .i64 ((x : Int) - 1)) = (dec1 l k).map fun (n : Nat) => Value.int .i64 n := by
                rw [dec1, List.map_set]
                congr 2
                rw [HG.out]; omega
              rw [hset] at s1
              have HN := Lib.hid (own_nats s1.1 (by omega))
              have hX3 : Ext wo (w2.setCell ⟨g, k, none⟩ (.int .i64 ((x : Int) - 1))) := hX2.setCell hg1 _
              have hds : (dec1 l k).sum = s := by
                have h8 := dec1_sum l k (by rw [HG.out]; omega)
                have := HL.out; omega
              have HDS := Lib.hid hds
              have hdl : (dec1 l k).length ≤ 7 := by rw [dec1_len]; exact hl7
              have hs10 : s ≤ 10 := by omega
              clear s1 hset hds f1 hgrew hown
              refine (HIH.out _ (dec1 l k) _ (by exact HN.out) hdl HDS.out hs10).mono ?_
              rintro e w3 ⟨u, rfl, ps, hps, hRp, hX4⟩
              have hX5 := hX3.trans hX4
              have hszs : wo.heap.size ≤ (w2.setCell ⟨g, k, none⟩ (.int .i64 ((x : Int) - 1))).heap.size := hX3.size
              have hpl : ps.length ≤ 17592186044416 := by
                have h7 := hRp.len
                have h8 := (plF_all s (dec1 l k) HDS.out).1
                have h9 := waysN_le (dec1 l k)
                rw [HDS.out] at h9
                have h10 : fac s ≤ fac 10 := fac_mono hs10
                have h11 : fac 10 = 3628800 := by decide
                simp at h7; omega
              have hlt0 : ∀ k, u6.ownBlock = some k → k < wo.heap.size := fun k hk => (HO.lt k hk).2
              have hRu : RowX u6.ownBlock w3 u ps := ⟨own_row hps hpl, (own_fr (vs := ps) hps (by intro h; exact List.length_pos_iff.2 h)).away (fun k hk => Nat.lt_of_lt_of_le (hlt0 k hk) hszs)⟩
              have hRp2 : RowsX wo.heap.size u6.ownBlock w3 ps _ := (hRp.away (fun k hk => Nat.lt_of_lt_of_le (hlt0 k hk) hszs)).mono hszs
              have HO2 := own_ext HO hX5
              have HR2 := HR.ext hX5
              have HX6 := HX.trans hX5
              clear hps hRp hlt0 hszs hX4 hX3 hX2
              obtain ⟨ao2, c2, rfl, _, hpl2, _, _⟩ := hRu.1
              have hRu2 := Lib.hid hRu; clear hRu
              have hpl3 : ps.length = (plF s (dec1 l k)).length := by have := hRp2.len; simpa using this
              have HPL := Lib.hid hpl3; clear hpl3
              go_wp2_with fail
              go_loopw [6, 46] (fun ov jv wr => ∃ (j : Nat) (us' : List Value) (yss : List (List Nat)), j ≤ ps.length ∧ jv = .int .i64 j ∧ Ext w wr ∧ wr.ownsRow w.heap.size 22 1 ov us'.length us' ∧
                RowsX w.heap.size ov.ownBlock wr us' (yss.map (·.map encN)) ∧ RowX ov.ownBlock wr (.slice ao2 ps.length c2) ps ∧ RowsX w.heap.size ov.ownBlock wr ps ((plF s (dec1 l k)).map (·.map encN)) ∧
                Hid (yss = xss ++ ((plF s (dec1 l k)).take j).map (k :: ·))) (fun _ jv _ => ps.length - (intOf jv).toNat)
              case atStart => exact ⟨0, us, xss, Nat.zero_le _, rfl, HX6, HO2, HR2, hRu2.out, hRp2.mono hBs, by simp [Hid]⟩
              case round =>
                obtain ⟨j, us', yss, hj, rfl, HY, HP, HQ, HU, HS, HZ⟩ := hrel
                by_cases hjl : j < ps.length
                · obtain ⟨p, hp1, hp2, hp3⟩ := get_lt hjl
                  obtain ⟨q, hq1, hq2, hq3⟩ := get_lt (xs := plF s (dec1 l k)) (k := j) (by rw [← HPL.out]; exact hjl)
                  obtain ⟨b2, off2, rfl, hpc⟩ := HU.1.at hp1
                  have hrow := HS.row j p (q.map encN) hp1.out (by simp [hq1.out])
                  have hpsrc := Lib.hid (Row.src (hrow.1.1.ext ((Ext.refl wr).alloc (.cells #[.int .i64 k] 3))) (by intro y hy; obtain ⟨z, _, rfl⟩ := List.mem_map.1 hy; rfl))
                  have hql : (q.map encN).length ≤ 10 := by
                    have h7 : q ∈ plF s (dec1 l k) := List.mem_of_getElem? hq1.out
                    have := plF_len s (dec1 l k) HDS.out q h7
                    simp; omega
                  have hyl : us'.length ≤ 3628800 := by
                    have e1 := HQ.len
                    have e2 := (plF_all s (dec1 l k) HDS.out).1
                    have e3 : rIn l (k + 1) = rIn l k + waysN (dec1 l k) := by simp only [rIn]; rw [if_pos (by rw [HG.out]; omega)]
                    have e4 := rIn_le l (by have := HL.out; omega) (k + 1) (by omega)
                    have e5 := blks_len s l HL.out k
                    have e6 := HPL.out
                    rw [HZ.out, HE.out] at e1
                    simp only [List.length_map, List.length_append, e5, List.length_take] at e1
                    omega
                  have hBs2 : w.heap.size ≤ wr.heap.size := HY.size
                  obtain ⟨m, hm⟩ : ∃ m, Hid ((q.map encN).length = m) := ⟨_, rfl⟩
                  rw [hm.out] at hql hpsrc
                  have HR1 := Lib.hid hrow; clear hrow
                  go_wp2_with (first | (at_builtin; refine wp_app rfl rfl ei_ints rfl (own_lit1 wr _ _) rfl hpsrc.out (by omega) (by omega) (by simp) ?_; intro v4 w4 hown4 hgrew4; have hX7 : Ext wr w4 := hgrew4.extNew ((Ext.refl wr).alloc _) (own_lit1 wr _ _) (Nat.le_refl _); have HO4 := own_ext HP hX7; obtain ⟨g4, cap4, rfl, hg4, hg5⟩ := own_open hown4 (by omega)) | (at_builtin; go_must (refine wp_app1 rfl rfl ei_rows HO4 rfl rfl rfl rfl (by omega) (by omega) (Nat.le_trans hBs2 hX7.size) ?_); intro v5 w5 hown5 hgrew5))
                  have HR4 := HQ.ext hX7
                  have hX8 := hgrew5.extNew (HY.trans hX7) HO4 (Nat.le_refl _)
                  have hne4 : RowX u6.ownBlock w4 (.slice (some ⟨g4, 0, none⟩) (1 + m) cap4) ((k :: q).map encN) := by
                    have e1 : Row w4 (.slice (some ⟨g4, 0, none⟩) (1 + m) cap4) ((k :: q).map encN) := own_row hown4 (by omega)
                    refine ⟨e1, .inr fun e => ?_⟩
                    have := (HP.lt g4 e.symm).2
                    omega
                  go_roundw
                  case rel =>
                    refine ⟨j + 1, us' ++ [.slice (some ⟨g4, 0, none⟩) (1 + m) cap4], yss ++ [k :: q], by omega, by go_num, hX8, by simpa using hown5, ?_, hgrew5.row (HU.ext hX7), (HS.ext hX7).grew hgrew5, ?_⟩
                    · rw [List.map_append]
                      exact (HR4.grew hgrew5).snoc (hgrew5.row hne4) (.inr ⟨g4, rfl, Nat.le_trans hBs2 hg4⟩)
                    · show _ = _
                      rw [HZ.out, hq3.out]; simp
                  case measure => simp [intOf]; omega
                · obtain rfl : j = ps.length := by omega
                  go_wp2_with fail
                  go_roundw
                  case rel =>
                    refine ⟨k + 1, us', yss, by omega, by go_num, HY, HP, HQ, ?_⟩
                    show _ = _
                    rw [HZ.out, HE.out, HPL.out, List.take_length, List.range_succ, List.flatMap_append]
                    rw [List.flatMap_singleton, blk, if_neg (by rw [HG.out]; exact hx0)]
                  case measure => simp [intOf]; omega
          · obtain rfl : k = l.length := by omega
            have HE2 := HE.out
            rw [← plF_blk] at HE2
            go_wp2_with fail
            go_ret
            exact ⟨_, rfl, us, HO, by rw [← HE2]; exact HR.away (fun k hk => by cases hk), HX⟩
end Go.Proofs.Ytllhgkacbpgemaa
