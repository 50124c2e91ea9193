/- arguments that are read: the calls of a deal -/
import Derived.Test.YtllhgkacbpgemaaInS
import Derived.Test.YtllhgkacbpgemaaDealI
namespace Go.Proofs.Ytllhgkacbpgemaa
open Go.ChangeShapes Go.WideShapes Go.ChangeAt Go.RowKit Go.Deep

set_option maxRecDepth 100000 in
theorem calls_in {H : Type} {enc : TypeId × Value → H} {W : World} {base : Nat} {v : Value} {d : DataW H} {p : List MemPlace} (hv : Value.okWide Try.prog W .any base 42 v)
    (h : DataW.Trod enc Try.prog W 0 (fun _ => true) true 42 v d p) (hs : Sized Try.prog 42 d) :
    ∃ (ao : Option Addr) (cap : Nat) (cs : List DC), v = .slice ao cs.length cap ∧ CallsIn W ao cap cs := by
  obtain ⟨n, hn⟩ := trod_slice_arg Try.underlying42 hv h
  obtain ⟨ao, c, cs, vss, rfl, h1, h2, h3, h4, h5⟩ := structs_in (B := 48) (Rel := fun vs (c : DC) => vs = [.bool c.op, .bool c.wrong, .int .i64 c.pl, .int .i64 c.sec, c.dv] ∧ Ints W c.dv c.ds ∧ c.ds.length + 512 ≤ 17592186044416 ∧ (Lit.int .i64 c.pl).wf = true)
    Try.underlying42 Try.underlying49 (by kernel_rfl) (by kernel_rfl) (by decide) (by kernel_rfl) (by omega) (fun n vs hl hf => by
      match vs, hl with
      | [v0, v1, v2, v3, v4], _ =>
        obtain ⟨y0, t0, _⟩ := hf 0 _ v0 rfl rfl
        obtain ⟨y1, t1, _⟩ := hf 1 _ v1 rfl rfl
        obtain ⟨y2, t2, _⟩ := hf 2 _ v2 rfl rfl
        obtain ⟨y3, t3, _⟩ := hf 3 _ v3 rfl rfl
        obtain ⟨y4, t4, z4⟩ := hf 4 _ v4 rfl rfl
        obtain ⟨b0, e0, _⟩ := DataW.trod_bool Try.underlying4 t0
        obtain ⟨b1, e1, _⟩ := DataW.trod_bool Try.underlying4 t1
        obtain ⟨x2, e2, _, w2⟩ := DataW.trod_int Try.underlying3 t2
        obtain ⟨x3, e3, _, _⟩ := DataW.trod_int Try.underlying3 t3
        obtain ⟨xs, i1, i2, _⟩ := ints_elem Try.underlying22 Try.underlying3 (by kernel_rfl) (by kernel_rfl) t4 z4
        simp only [List.cons.injEq, and_true] at e0 e1 e2 e3
        subst e0; subst e1; subst e2; subst e3
        exact ⟨⟨b0, b1, x2, x3, v4, xs⟩, rfl, i1, i2, w2⟩) hn hs
  have hat : ∀ (i : Nat) (c : DC), cs[i]? = some c → ∃ vs, vss[i]? = some vs := fun i c hc => ⟨vss[i]'(by have := (List.getElem?_eq_some_iff.1 hc).1; omega), List.getElem?_eq_getElem (by have := (List.getElem?_eq_some_iff.1 hc).1; omega)⟩
  refine ⟨ao, c, cs, rfl, h1, h2, by unfold reachBytes at h3; omega, fun i x hx => ?_, fun x hx => ?_⟩
  · obtain ⟨vs, hvs⟩ := hat i x hx
    obtain ⟨⟨rfl, _⟩, _, hc⟩ := h5 i vs x hvs hx
    obtain ⟨b, off, rfl, c0⟩ := hc 0 _ rfl
    have g : ∀ (j : Nat) (u : Value), [Value.bool x.op, .bool x.wrong, .int .i64 x.pl, .int .i64 x.sec, x.dv][j]? = some u → W.cell? ⟨b, off + i * 5 + j, none⟩ = some u := fun j u hu => by
      obtain ⟨b', off', e, hc'⟩ := hc j u hu
      simp only [Option.some.injEq, Addr.mk.injEq, and_true] at e
      obtain ⟨rfl, rfl⟩ := e
      exact hc'
    exact ⟨b, off, rfl, g 0 _ rfl, g 1 _ rfl, g 2 _ rfl, g 3 _ rfl, g 4 _ rfl⟩
  · obtain ⟨i, hi, rfl⟩ := List.mem_iff_getElem.1 hx
    obtain ⟨vs, hvs⟩ := hat i _ (List.getElem?_eq_getElem hi)
    obtain ⟨⟨_, r1, r2, r3⟩, _⟩ := h5 i vs _ hvs (List.getElem?_eq_getElem hi)
    exact ⟨r1, r2, wf_bd r3⟩
end Go.Proofs.Ytllhgkacbpgemaa
