/- Messages that come in. -/
import Derived.Test.YtjeamfoicpgkhaaGreatDoorLumpB
import Derived.Test.YtjeamfoicpgkhaaGreatDoorParMay
namespace Go.Proofs.YtjeamfoicpgkhaaGreatDoor.MsgOpen
open Go.RowKit Go.Proofs.YtjeamfoicpgkhaaGreatDoor.Mem Go.Proofs.YtjeamfoicpgkhaaGreatDoor.Read Go.Proofs.YtjeamfoicpgkhaaGreatDoor.Open Go.Proofs.YtjeamfoicpgkhaaGreatDoor.Data Go.Proofs.YtjeamfoicpgkhaaGreatDoor.Tree Go.Proofs.YtjeamfoicpgkhaaGreatDoor.CompR Go.Proofs.YtjeamfoicpgkhaaGreatDoor.MsgR Go.ChangeShapes Go.WideShapes
open Go.Proofs.YtjeamfoicpgkhaaGreatDoor.Index (Rng)
open Go.Proofs.YtjeamfoicpgkhaaGreatDoor.ParMay (RngN)
set_option linter.unusedVariables false
structure Tys where
  ti : TypeId
  tb : TypeId
  ts : TypeId
  tis : TypeId
  tC : TypeId
  tCs : TypeId
  tS : TypeId
  tSs : TypeId
  tN : TypeId
  tNs : TypeId
  tT : TypeId
  tE : TypeId
  tEs : TypeId
  tM : TypeId
def Fields (P : Program) (e : TypeId) (L : List (Nat × TypeId)) : Prop := ∃ fs, P.underlying e = some (.struct fs) ∧ fs.toList.map (fun f => (f.offset, f.type)) = L
structure TyOk (P : Program) (T : Tys) : Prop where
  i : P.underlying T.ti = some (.int .i64)
  b : P.underlying T.tb = some .bool
  s : P.underlying T.ts = some .string
  is : P.underlying T.tis = some (.slice T.ti)
  Cs : P.underlying T.tCs = some (.slice T.tC)
  Ss : P.underlying T.tSs = some (.slice T.tS)
  Ns : P.underlying T.tNs = some (.slice T.tN)
  Es : P.underlying T.tEs = some (.slice T.tE)
  ci : P.cellsOf T.ti = 1
  cb : P.cellsOf T.tb = 1
  cs : P.cellsOf T.ts = 1
  cis : P.cellsOf T.tis = 1
  cCs : P.cellsOf T.tCs = 1
  cSs : P.cellsOf T.tSs = 1
  cNs : P.cellsOf T.tNs = 1
  cEs : P.cellsOf T.tEs = 1
  cC : P.cellsOf T.tC = 3
  cS : P.cellsOf T.tS = 6
  cN : P.cellsOf T.tN = 5
  cE : P.cellsOf T.tE = 4
  cT : P.cellsOf T.tT = 3
  cM : P.cellsOf T.tM = 13
  C : Fields P T.tC [(0, T.ti), (1, T.ti), (2, T.ts)]
  S : Fields P T.tS [(0, T.ti), (1, T.ti), (2, T.ti), (3, T.ti), (4, T.ti), (5, T.tis)]
  N : Fields P T.tN [(0, T.ti), (1, T.ti), (2, T.ti), (3, T.ti), (4, T.tis)]
  E : Fields P T.tE [(0, T.ti), (1, T.ti), (2, T.tCs), (3, T.tSs)]
  Tr : Fields P T.tT [(0, T.ti), (1, T.ti), (2, T.tNs)]
  M : Fields P T.tM [(0, T.ti), (1, T.ti), (2, T.ti), (3, T.ti), (4, T.ti), (5, T.ti), (6, T.tb), (7, T.tCs), (8, T.tEs), (9, T.ts), (10, T.tT)]
theorem sl_both {α : Type} {sz : Nat} {R : World → α → List Value → Prop} {Q : α → Prop} {w : World} {xs : List α} {v : Value} (h : SlR sz (fun w a cs => R w a cs ∧ Q a) w xs v) : SlR sz R w xs v ∧ ∀ a ∈ xs, Q a := by
  obtain ⟨A, c, e, h1, h2, h3⟩ := h
  refine ⟨⟨A, c, e, h1, h2, fun j hj => ?_⟩, fun a ha => ?_⟩
  · obtain ⟨ad, cs, e, hl, hr, hc⟩ := h3 j hj
    exact ⟨ad, cs, e, hl, hr.1, hc⟩
  · obtain ⟨j, hj, rfl⟩ := List.mem_iff_getElem.1 ha
    obtain ⟨ad, cs, e, hl, hr, hc⟩ := h3 j hj
    exact hr.2
section
variable {H : Type} {enc : TypeId × Value → H} {P : Program} {w : World} {base : Nat} {spare : Nat → Bool} {held : Bool} {r : Reach} {b0 : Nat} {T : Tys}
theorem fields_open {e : TypeId} {L : List (Nat × TypeId)} {fuel : Nat} {cs : List Value} {x : DataW H × List MemPlace} (he : Fields P e L) (ht : DataW.trod enc P w base spare held fuel e cs = some x) :
    ∃ n, ∀ (i o : Nat) (t : TypeId), L[i]? = some (o, t) → ∃ y, DataW.trod enc P w base spare held n t ((cs.drop o).take (P.cellsOf t)) = some y := by
  obtain ⟨fs, hu, rfl⟩ := he
  obtain ⟨ys, n, -, -, -, hlen, hg⟩ := DataW.trod_struct hu ht
  refine ⟨n, fun i o t hi => ?_⟩
  rw [List.getElem?_map, Option.map_eq_some_iff] at hi
  obtain ⟨f, hf, e⟩ := hi
  obtain ⟨rfl, rfl⟩ := Prod.mk.inj e
  have hf' : fs[i]? = some f := by simpa using hf
  have hlt : i < ys.length := by
    rw [hlen]
    exact (Array.getElem?_eq_some_iff.1 hf').1
  exact ⟨ys[i], by rw [hg i f hf', List.getElem?_eq_getElem hlt]⟩
theorem rng_of {n : Int} (h : (Lit.int .i64 n).wf = true) : Rng n := by
  have h1 : (IntKind.i64.min : Int) = -9223372036854775808 := rfl
  have h2 : (IntKind.i64.max : Int) = 9223372036854775807 := rfl
  simp only [Lit.wf, Bool.and_eq_true, decide_eq_true_eq, h1, h2] at h
  exact h
variable (hT : TyOk P T)
include hT
theorem open_int {n : Nat} {cs : List Value} (h : ∃ y, DataW.trod enc P w base spare held n T.ti (cs.take (P.cellsOf T.ti)) = some y) : ∃ x, cs.take 1 = [.int .i64 x] ∧ Rng x := by
  obtain ⟨y, h⟩ := h
  rw [hT.ci] at h
  obtain ⟨x, e, -, hw⟩ := DataW.trod_int hT.i h
  exact ⟨x, e, rng_of hw⟩
theorem open_bool {n : Nat} {cs : List Value} (h : ∃ y, DataW.trod enc P w base spare held n T.tb (cs.take (P.cellsOf T.tb)) = some y) : ∃ x, cs.take 1 = [.bool x] := by
  obtain ⟨y, h⟩ := h
  rw [hT.cb] at h
  obtain ⟨x, e, -⟩ := DataW.trod_bool hT.b h
  exact ⟨x, e⟩
theorem open_str {n : Nat} {cs : List Value} (h : ∃ y, DataW.trod enc P w base spare held n T.ts (cs.take (P.cellsOf T.ts)) = some y) : ∃ x, cs.take 1 = [.string x] ∧ x.size ≤ maxLen := by
  obtain ⟨y, h⟩ := h
  rw [hT.cs] at h
  obtain ⟨x, e, -, hz⟩ := DataW.trod_string hT.s h
  exact ⟨x, e, hz⟩
theorem open_ints {n : Nat} {cs : List Value} (h : ∃ y, DataW.trod enc P w base spare held n T.tis (cs.take (P.cellsOf T.tis)) = some y) : ∃ v xs, cs.take 1 = [v] ∧ SlR 1 intR w xs v ∧ ∀ x ∈ xs, Rng x := by
  obtain ⟨y, h⟩ := h
  rw [hT.cis] at h
  obtain ⟨v, xs, e, hx⟩ := open_sl (R := fun w a cs => intR w a cs ∧ Rng a) hT.is hT.ci (fun fuel cs x hl ht => by
    obtain ⟨x, e, -, hw⟩ := DataW.trod_int hT.i ht
    exact ⟨x, e, rng_of hw⟩) h
  obtain ⟨h1, h2⟩ := sl_both hx
  exact ⟨v, xs, e, h1, h2⟩
theorem open_comps {n : Nat} {cs : List Value} (h : ∃ y, DataW.trod enc P w base spare held n T.tCs (cs.take (P.cellsOf T.tCs)) = some y) : ∃ v xs, cs.take 1 = [v] ∧ CompsR w xs v := by
  obtain ⟨y, h⟩ := h
  rw [hT.cCs] at h
  exact open_sl (R := compR) hT.Cs hT.cC (fun fuel cs x hl ht => by
    match cs, hl with
    | [d0, d1, d2], _ =>
      obtain ⟨n, hg⟩ := fields_open hT.C ht
      obtain ⟨x0, q0, -⟩ := open_int hT (hg 0 _ _ rfl)
      obtain ⟨x1, q1, -⟩ := open_int hT (hg 1 _ _ rfl)
      obtain ⟨x2, q2, hz⟩ := open_str hT (hg 2 _ _ rfl)
      simp only [List.drop_zero, List.drop_succ_cons, List.take_succ_cons, List.take_zero, List.cons.injEq, and_true] at q0 q1 q2
      subst q0 q1 q2
      exact ⟨⟨x0, x1, x2⟩, rfl, hz⟩) h
theorem open_steps {n : Nat} {cs : List Value} (h : ∃ y, DataW.trod enc P w base spare held n T.tSs (cs.take (P.cellsOf T.tSs)) = some y) : ∃ v xs, cs.take 1 = [v] ∧ StepsR w xs v := by
  obtain ⟨y, h⟩ := h
  rw [hT.cSs] at h
  exact open_sl (R := stepR) hT.Ss hT.cS (fun fuel cs x hl ht => by
    match cs, hl with
    | [d0, d1, d2, d3, d4, d5], _ =>
      obtain ⟨n, hg⟩ := fields_open hT.S ht
      obtain ⟨x0, q0, -⟩ := open_int hT (hg 0 _ _ rfl)
      obtain ⟨x1, q1, -⟩ := open_int hT (hg 1 _ _ rfl)
      obtain ⟨x2, q2, -⟩ := open_int hT (hg 2 _ _ rfl)
      obtain ⟨x3, q3, -⟩ := open_int hT (hg 3 _ _ rfl)
      obtain ⟨x4, q4, -⟩ := open_int hT (hg 4 _ _ rfl)
      obtain ⟨kv, ks, q5, hk, -⟩ := open_ints hT (hg 5 _ _ rfl)
      simp only [List.drop_zero, List.drop_succ_cons, List.take_succ_cons, List.take_zero, List.cons.injEq, and_true] at q0 q1 q2 q3 q4 q5
      subst q0 q1 q2 q3 q4 q5
      exact ⟨⟨x0, x1, x2, x3, x4, ks⟩, _, rfl, hk⟩) h
theorem open_nodes {n : Nat} {cs : List Value} (h : ∃ y, DataW.trod enc P w base spare held n T.tNs (cs.take (P.cellsOf T.tNs)) = some y) : ∃ v xs, cs.take 1 = [v] ∧ NodesR w xs v ∧ RngN xs := by
  obtain ⟨y, h⟩ := h
  rw [hT.cNs] at h
  obtain ⟨v, xs, e, hx⟩ := open_sl (R := fun w a cs => nodeR w a cs ∧ (Rng a.id ∧ ∀ k ∈ a.kids, Rng k)) hT.Ns hT.cN (fun fuel cs x hl ht => by
    match cs, hl with
    | [d0, d1, d2, d3, d4], _ =>
      obtain ⟨n, hg⟩ := fields_open hT.N ht
      obtain ⟨x0, q0, r0⟩ := open_int hT (hg 0 _ _ rfl)
      obtain ⟨x1, q1, -⟩ := open_int hT (hg 1 _ _ rfl)
      obtain ⟨x2, q2, -⟩ := open_int hT (hg 2 _ _ rfl)
      obtain ⟨x3, q3, -⟩ := open_int hT (hg 3 _ _ rfl)
      obtain ⟨kv, ks, q4, hk, hr⟩ := open_ints hT (hg 4 _ _ rfl)
      simp only [List.drop_zero, List.drop_succ_cons, List.take_succ_cons, List.take_zero, List.cons.injEq, and_true] at q0 q1 q2 q3 q4
      subst q0 q1 q2 q3 q4
      exact ⟨⟨x0, x1, x2, x3, ks⟩, ⟨_, rfl, hk⟩, r0, hr⟩) h
  obtain ⟨h1, h2⟩ := sl_both hx
  exact ⟨v, xs, e, h1, h2⟩
theorem open_entries {n : Nat} {cs : List Value} (h : ∃ y, DataW.trod enc P w base spare held n T.tEs (cs.take (P.cellsOf T.tEs)) = some y) : ∃ v xs, cs.take 1 = [v] ∧ EntriesR w xs v := by
  obtain ⟨y, h⟩ := h
  rw [hT.cEs] at h
  exact open_sl (R := entryR) hT.Es hT.cE (fun fuel cs x hl ht => by
    match cs, hl with
    | [d0, d1, d2, d3], _ =>
      obtain ⟨n, hg⟩ := fields_open hT.E ht
      obtain ⟨x0, q0, -⟩ := open_int hT (hg 0 _ _ rfl)
      obtain ⟨x1, q1, -⟩ := open_int hT (hg 1 _ _ rfl)
      obtain ⟨v2, xs2, q2, h2⟩ := open_comps hT (hg 2 _ _ rfl)
      obtain ⟨v3, xs3, q3, h3⟩ := open_steps hT (hg 3 _ _ rfl)
      simp only [List.drop_zero, List.drop_succ_cons, List.take_succ_cons, List.take_zero, List.cons.injEq, and_true] at q0 q1 q2 q3
      subst q0 q1 q2 q3
      exact ⟨⟨x0, x1, xs2, xs3⟩, _, _, rfl, h2, h3⟩) h
theorem open_tree {n : Nat} {d0 d1 d2 : Value} (h : ∃ y, DataW.trod enc P w base spare held n T.tT [d0, d1, d2] = some y) : ∃ (t : TreeD) (nv : Value), d0 = .int .i64 t.root ∧ d1 = .int .i64 t.next ∧ d2 = nv ∧ NodesR w t.nodes nv ∧ RngN t.nodes := by
  obtain ⟨y, h⟩ := h
  obtain ⟨n, hg⟩ := fields_open hT.Tr h
  obtain ⟨x0, q0, -⟩ := open_int hT (hg 0 _ _ rfl)
  obtain ⟨x1, q1, -⟩ := open_int hT (hg 1 _ _ rfl)
  obtain ⟨v, xs, q2, h2, h3⟩ := open_nodes hT (hg 2 _ _ rfl)
  simp only [List.drop_zero, List.drop_succ_cons, List.take_succ_cons, List.take_zero, List.cons.injEq, and_true] at q0 q1 q2
  subst q0 q1 q2
  exact ⟨⟨x0, x1, xs⟩, _, rfl, rfl, rfl, h2, h3⟩
theorem open_msg {fuel : Nat} {v : Value} {x : DataW H × List MemPlace} (hv : Value.okWide P w r b0 T.tM v) (h : DataW.trod enc P w base spare held fuel T.tM v.cells.toList = some x) :
    ∃ m ev env nv, v = aggM m ev env nv ∧ MsgR w m ev env nv ∧ RngN m.tree.nodes := by
  obtain ⟨fs, hu, -⟩ := hT.M
  obtain ⟨cs, rfl, hl⟩ := okWide_struct hu hv
  rw [hT.cM] at hl
  have h' : DataW.trod enc P w base spare held fuel T.tM cs.toList = some x := h
  obtain ⟨l, rfl⟩ : ∃ l : List Value, cs = l.toArray := ⟨cs.toList, by simp⟩
  clear h hv
  have hl' : l.length = 13 := by simpa using hl
  match l, hl' with
  | [d0, d1, d2, d3, d4, d5, d6, d7, d8, d9, d10, d11, d12], _ =>
    obtain ⟨n, hg⟩ := fields_open hT.M h'
    obtain ⟨x0, q0, -⟩ := open_int hT (hg 0 _ _ rfl)
    obtain ⟨x1, q1, -⟩ := open_int hT (hg 1 _ _ rfl)
    obtain ⟨x2, q2, -⟩ := open_int hT (hg 2 _ _ rfl)
    obtain ⟨x3, q3, -⟩ := open_int hT (hg 3 _ _ rfl)
    obtain ⟨x4, q4, -⟩ := open_int hT (hg 4 _ _ rfl)
    obtain ⟨x5, q5, -⟩ := open_int hT (hg 5 _ _ rfl)
    obtain ⟨x6, q6⟩ := open_bool hT (hg 6 _ _ rfl)
    obtain ⟨x7, xs7, q7, h7⟩ := open_comps hT (hg 7 _ _ rfl)
    obtain ⟨x8, xs8, q8, h8⟩ := open_entries hT (hg 8 _ _ rfl)
    obtain ⟨x9, q9, hz⟩ := open_str hT (hg 9 _ _ rfl)
    have k := hg 10 _ _ rfl
    rw [hT.cT] at k
    obtain ⟨t, nv, e10, e11, e12, ht, hr⟩ := open_tree hT k
    simp only [List.drop_zero, List.drop_succ_cons, List.take_succ_cons, List.take_zero, List.cons.injEq, and_true] at q0 q1 q2 q3 q4 q5 q6 q7 q8 q9
    subst q0 q1 q2 q3 q4 q5 q6 q7 q8 q9 e10 e11 e12
    exact ⟨⟨x0, x1, x2, x3, x4, x5, x6, xs7, xs8, x9, t⟩, _, _, _, rfl, ⟨h7, h8, ht, hz⟩, hr⟩
end
theorem tys : TyOk Tryz.prog ⟨3, 4, 9, 49, 48, 22, 51, 52, 128, 24, 26, 54, 23, 28⟩ :=
  ⟨Tryz.underlying3, Tryz.underlying4, Tryz.underlying9, Tryz.underlying49, Tryz.underlying22, Tryz.underlying52, Tryz.underlying24, Tryz.underlying23,
    by kernel_rfl, by kernel_rfl, by kernel_rfl, by kernel_rfl, by kernel_rfl, by kernel_rfl, by kernel_rfl, by kernel_rfl, by kernel_rfl, by kernel_rfl, by kernel_rfl, by kernel_rfl, by kernel_rfl, by kernel_rfl,
    ⟨_, Tryz.underlying48, by kernel_rfl⟩, ⟨_, Tryz.underlying51, by kernel_rfl⟩, ⟨_, Tryz.underlying128, by kernel_rfl⟩, ⟨_, Tryz.underlying54, by kernel_rfl⟩, ⟨_, Tryz.underlying26, by kernel_rfl⟩, ⟨_, Tryz.underlying28, by kernel_rfl⟩⟩
def MsgV (w : World) (m : MsgD) (v : Value) : Prop := ∃ ev env nv, v = aggM m ev env nv ∧ MsgR w m ev env nv ∧ RngN m.tree.nodes
theorem open_msgv {H : Type} {enc : TypeId × Value → H} {P : Program} {w : World} {base : Nat} {spare : Nat → Bool} {held : Bool} {r : Reach} {b0 : Nat} {T : Tys} {fuel : Nat} {v : Value} {x : DataW H × List MemPlace} (hT : TyOk P T) (hv : Value.okWide P w r b0 T.tM v)
    (h : DataW.trod enc P w base spare held fuel T.tM v.cells.toList = some x) : ∃ m, MsgV w m v := open_msg hT hv h
end Go.Proofs.YtjeamfoicpgkhaaGreatDoor.MsgOpen
