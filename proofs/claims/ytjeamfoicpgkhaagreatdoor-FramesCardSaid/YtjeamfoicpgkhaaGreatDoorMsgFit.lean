/- Messages that come in: all rows of one lie within the reach. -/
import Derived.Test.YtjeamfoicpgkhaaGreatDoorMsgOpen
import Derived.SizedLaws
namespace Go.Proofs.YtjeamfoicpgkhaaGreatDoor.MsgOpen
open Go.RowKit Go.Proofs.YtjeamfoicpgkhaaGreatDoor.Mem Go.Proofs.YtjeamfoicpgkhaaGreatDoor.Read Go.Proofs.YtjeamfoicpgkhaaGreatDoor.Open Go.Proofs.YtjeamfoicpgkhaaGreatDoor.Data Go.Proofs.YtjeamfoicpgkhaaGreatDoor.Tree Go.Proofs.YtjeamfoicpgkhaaGreatDoor.CompR Go.Proofs.YtjeamfoicpgkhaaGreatDoor.MsgR Go.ChangeShapes Go.WideShapes
open Go.Proofs.YtjeamfoicpgkhaaGreatDoor.Index (Rng)
open Go.Proofs.YtjeamfoicpgkhaaGreatDoor.ParMay (RngN)
set_option linter.unusedVariables false
def BndK (ks : List Int) : Prop := ks.length * 8 ≤ 140737488351232
def BndC (cs : List CompD) : Prop := cs.length * 32 ≤ 140737488351232
def BndS (ss : List StepD) : Prop := ss.length * 64 ≤ 140737488351232 ∧ ∀ s ∈ ss, BndK s.kids
def BndN (ns : List NodeD) : Prop := ns.length * 56 ≤ 140737488351232 ∧ ∀ x ∈ ns, BndK x.kids
def BndE (es : List EntryD) : Prop := es.length * 64 ≤ 140737488351232 ∧ ∀ e ∈ es, BndC e.edit ∧ BndS e.delta
structure Bnd (m : MsgD) : Prop where
  edit : BndC m.edit
  entries : BndE m.entries
  nodes : BndN m.tree.nodes
structure ByOk (P : Program) (T : Tys) : Prop where
  i : P.bytesOf T.ti = 8
  C : P.bytesOf T.tC = 32
  S : P.bytesOf T.tS = 64
  N : P.bytesOf T.tN = 56
  E : P.bytesOf T.tE = 64
section
variable {H : Type} {enc : TypeId × Value → H} {P : Program} {w : World} {base : Nat} {spare : Nat → Bool} {held : Bool} {r : Reach} {b0 : Nat} {T : Tys}
def Fit (P : Program) (t : TypeId) (x : DataW H × List MemPlace) : Prop := ∀ n ∈ x.1.weights P t, n ≤ 140737488351232
theorem mem_all {e : TypeId} : ∀ {ds : List (DataW H)} {d : DataW H}, d ∈ ds → ∀ n ∈ d.weights P e, n ∈ DataW.weightsAll P e ds
  | [], _, h, _, _ => by simp at h
  | a :: ds, d, h, n, hn => by
    rw [DataW.weightsAll, List.mem_append]
    rcases List.mem_cons.1 h with rfl | h
    · exact .inl hn
    · exact .inr (mem_all h n hn)
theorem open_slF {α : Type} {sz : Nat} {R : World → α → List Value → Prop} {t e : TypeId} {fuel : Nat} {cs : List Value} {x : DataW H × List MemPlace} (ht : P.underlying t = some (.slice e)) (hC : P.cellsOf e = sz)
    (hR : ∀ fuel cs x, cs.length = sz → DataW.trod enc P w base spare held fuel e cs = some x → Fit P e x → ∃ a, R w a cs) (h : DataW.trod enc P w base spare held fuel t cs = some x) (hF : Fit P t x) :
    ∃ v xs, cs = [v] ∧ SlR sz R w xs v ∧ xs.length * P.bytesOf e ≤ 140737488351232 := by
  rcases DataW.trod_slice ht h with ⟨h0, _⟩ | ⟨a, len, cap, elems, rest, n, _, rfl, rfl, hb, hl, hm, hlen, hel, _⟩
  · exact ⟨_, [], h0, ⟨none, 0, rfl, Nat.le_refl _, by simp [maxLen], fun j h => absurd h (Nat.not_lt_zero _)⟩, by simp⟩
  · have hw : ∀ d ∈ elems.map (·.1), ∀ n ∈ d.weights P e, n ≤ 140737488351232 := fun d hd n hn => hF n (by
      simp only [DataW.weights, ht]
      exact List.mem_cons_of_mem _ (List.mem_append.2 (.inl (mem_all hd n hn))))
    obtain ⟨xs, hxl, hx⟩ := list_of (fun j (b : α) => ∃ cs, cs.length = sz ∧ R w b cs ∧ ∀ i u, cs[i]? = some u → w.cell? (a.add (j * sz + i)) = some u) len (fun j hj => by
      have h1 := hel j hj
      rw [List.getElem?_eq_getElem (by omega), Option.bind_eq_some_iff] at h1
      obtain ⟨cs, hc, ht'⟩ := h1
      rw [hC] at hc
      obtain ⟨_, hcl, hat⟩ := World.cells?_some hc
      obtain ⟨b, hb'⟩ := hR n cs _ hcl ht' (fun n hn => hw _ (List.mem_map_of_mem (List.getElem_mem (by omega))) n hn)
      refine ⟨b, cs, hcl, hb', fun i u hu => ?_⟩
      have hi : i < sz := by rw [← hcl]; exact (List.getElem?_eq_some_iff.1 hu).1
      rw [← add_add, hat i hi, hu])
    refine ⟨_, xs, rfl, ⟨some a, cap, by rw [hxl], by omega, hm, fun j hj => ?_⟩, ?_⟩
    · obtain ⟨cs, h1, h2, h3⟩ := hx j hj
      exact ⟨a, cs, rfl, h1, h2, h3⟩
    · have := hF ((elems.length + rest.length) * P.bytesOf e) (by simp [DataW.weights, ht])
      rw [hxl, ← hlen]
      exact Nat.le_trans (Nat.mul_le_mul_right _ (Nat.le_add_right _ _)) this
theorem fields_openF {e : TypeId} {L : List (Nat × TypeId)} {fuel : Nat} {cs : List Value} {x : DataW H × List MemPlace} (he : Fields P e L) (ht : DataW.trod enc P w base spare held fuel e cs = some x) (hF : Fit P e x) :
    ∃ n, ∀ (i o : Nat) (t : TypeId), L[i]? = some (o, t) → ∃ y, DataW.trod enc P w base spare held n t ((cs.drop o).take (P.cellsOf t)) = some y ∧ Fit P t y := by
  obtain ⟨fs, hu, rfl⟩ := he
  obtain ⟨ys, n, -, rfl, -, hlen, hg⟩ := DataW.trod_struct hu ht
  refine ⟨n, fun i o t hi => ?_⟩
  rw [List.getElem?_map, Option.map_eq_some_iff] at hi
  obtain ⟨f, hf, e'⟩ := hi
  obtain ⟨rfl, rfl⟩ := Prod.mk.inj e'
  have hf' : fs[i]? = some f := by simpa using hf
  have hlt : i < ys.length := by
    rw [hlen]
    exact (Array.getElem?_eq_some_iff.1 hf').1
  refine ⟨ys[i], by rw [hg i f hf', List.getElem?_eq_getElem hlt], fun m hm => hF m ?_⟩
  simp only [DataW.weights, hu]
  exact DataW.weights_mem_each (j := i) (t := f.type) (d := ys[i].1) (by rw [List.getElem?_map, hf]; rfl) (by rw [List.getElem?_map, List.getElem?_eq_getElem hlt]; rfl) m hm
variable (hT : TyOk P T) (hB : ByOk P T)
include hT hB
theorem open_intsF {n : Nat} {cs : List Value} (h : ∃ y, DataW.trod enc P w base spare held n T.tis (cs.take (P.cellsOf T.tis)) = some y ∧ Fit P T.tis y) : ∃ v xs, cs.take 1 = [v] ∧ SlR 1 intR w xs v ∧ (∀ x ∈ xs, Rng x) ∧ BndK xs := by
  obtain ⟨y, h, hf⟩ := h
  rw [hT.cis] at h
  obtain ⟨v, xs, e, hx, hb⟩ := open_slF (R := fun w a cs => intR w a cs ∧ Rng a) hT.is hT.ci (fun fuel cs x hl ht _ => by
    obtain ⟨x, e, -, hw⟩ := DataW.trod_int hT.i ht
    exact ⟨x, e, rng_of hw⟩) h hf
  obtain ⟨h1, h2⟩ := sl_both hx
  rw [hB.i] at hb
  exact ⟨v, xs, e, h1, h2, hb⟩
theorem open_compsF {n : Nat} {cs : List Value} (h : ∃ y, DataW.trod enc P w base spare held n T.tCs (cs.take (P.cellsOf T.tCs)) = some y ∧ Fit P T.tCs y) : ∃ v xs, cs.take 1 = [v] ∧ CompsR w xs v ∧ BndC xs := by
  obtain ⟨y, h, hf⟩ := h
  rw [hT.cCs] at h
  obtain ⟨v, xs, e, hx, hb⟩ := open_slF (R := compR) hT.Cs hT.cC (fun fuel cs x hl ht _ => by
    match cs, hl with
    | [d0, d1, d2], _ =>
      obtain ⟨n, hg⟩ := fields_open hT.C ht
      obtain ⟨x0, q0, -⟩ := open_int hT (hg 0 _ _ rfl)
      obtain ⟨x1, q1, -⟩ := open_int hT (hg 1 _ _ rfl)
      obtain ⟨x2, q2, hz⟩ := open_str hT (hg 2 _ _ rfl)
      simp only [List.drop_zero, List.drop_succ_cons, List.take_succ_cons, List.take_zero, List.cons.injEq, and_true] at q0 q1 q2
      subst q0 q1 q2
      exact ⟨⟨x0, x1, x2⟩, rfl, hz⟩) h hf
  rw [hB.C] at hb
  exact ⟨v, xs, e, hx, hb⟩
theorem open_stepsF {n : Nat} {cs : List Value} (h : ∃ y, DataW.trod enc P w base spare held n T.tSs (cs.take (P.cellsOf T.tSs)) = some y ∧ Fit P T.tSs y) : ∃ v xs, cs.take 1 = [v] ∧ StepsR w xs v ∧ BndS xs := by
  obtain ⟨y, h, hf⟩ := h
  rw [hT.cSs] at h
  obtain ⟨v, xs, e, hx, hb⟩ := open_slF (R := fun w a cs => stepR w a cs ∧ BndK a.kids) hT.Ss hT.cS (fun fuel cs x hl ht hf => by
    match cs, hl with
    | [d0, d1, d2, d3, d4, d5], _ =>
      obtain ⟨n, hg⟩ := fields_open hT.S ht
      obtain ⟨n', hg'⟩ := fields_openF hT.S ht hf
      obtain ⟨x0, q0, -⟩ := open_int hT (hg 0 _ _ rfl)
      obtain ⟨x1, q1, -⟩ := open_int hT (hg 1 _ _ rfl)
      obtain ⟨x2, q2, -⟩ := open_int hT (hg 2 _ _ rfl)
      obtain ⟨x3, q3, -⟩ := open_int hT (hg 3 _ _ rfl)
      obtain ⟨x4, q4, -⟩ := open_int hT (hg 4 _ _ rfl)
      obtain ⟨kv, ks, q5, hk, -, hbk⟩ := open_intsF hT hB (hg' 5 _ _ rfl)
      simp only [List.drop_zero, List.drop_succ_cons, List.take_succ_cons, List.take_zero, List.cons.injEq, and_true] at q0 q1 q2 q3 q4 q5
      subst q0 q1 q2 q3 q4 q5
      exact ⟨⟨x0, x1, x2, x3, x4, ks⟩, ⟨_, rfl, hk⟩, hbk⟩) h hf
  obtain ⟨h1, h2⟩ := sl_both hx
  rw [hB.S] at hb
  exact ⟨v, xs, e, h1, hb, h2⟩
theorem open_nodesF {n : Nat} {cs : List Value} (h : ∃ y, DataW.trod enc P w base spare held n T.tNs (cs.take (P.cellsOf T.tNs)) = some y ∧ Fit P T.tNs y) : ∃ v xs, cs.take 1 = [v] ∧ NodesR w xs v ∧ RngN xs ∧ BndN xs := by
  obtain ⟨y, h, hf⟩ := h
  rw [hT.cNs] at h
  obtain ⟨v, xs, e, hx, hb⟩ := open_slF (R := fun w a cs => nodeR w a cs ∧ ((Rng a.id ∧ ∀ k ∈ a.kids, Rng k) ∧ BndK a.kids)) hT.Ns hT.cN (fun fuel cs x hl ht hf => by
    match cs, hl with
    | [d0, d1, d2, d3, d4], _ =>
      obtain ⟨n, hg⟩ := fields_open hT.N ht
      obtain ⟨n', hg'⟩ := fields_openF hT.N ht hf
      obtain ⟨x0, q0, r0⟩ := open_int hT (hg 0 _ _ rfl)
      obtain ⟨x1, q1, -⟩ := open_int hT (hg 1 _ _ rfl)
      obtain ⟨x2, q2, -⟩ := open_int hT (hg 2 _ _ rfl)
      obtain ⟨x3, q3, -⟩ := open_int hT (hg 3 _ _ rfl)
      obtain ⟨kv, ks, q4, hk, hr, hbk⟩ := open_intsF hT hB (hg' 4 _ _ rfl)
      simp only [List.drop_zero, List.drop_succ_cons, List.take_succ_cons, List.take_zero, List.cons.injEq, and_true] at q0 q1 q2 q3 q4
      subst q0 q1 q2 q3 q4
      exact ⟨⟨x0, x1, x2, x3, ks⟩, ⟨_, rfl, hk⟩, ⟨r0, hr⟩, hbk⟩) h hf
  obtain ⟨h1, h2⟩ := sl_both hx
  rw [hB.N] at hb
  exact ⟨v, xs, e, h1, fun a ha => (h2 a ha).1, hb, fun a ha => (h2 a ha).2⟩
theorem open_entriesF {n : Nat} {cs : List Value} (h : ∃ y, DataW.trod enc P w base spare held n T.tEs (cs.take (P.cellsOf T.tEs)) = some y ∧ Fit P T.tEs y) : ∃ v xs, cs.take 1 = [v] ∧ EntriesR w xs v ∧ BndE xs := by
  obtain ⟨y, h, hf⟩ := h
  rw [hT.cEs] at h
  obtain ⟨v, xs, e, hx, hb⟩ := open_slF (R := fun w a cs => entryR w a cs ∧ (BndC a.edit ∧ BndS a.delta)) hT.Es hT.cE (fun fuel cs x hl ht hf => by
    match cs, hl with
    | [d0, d1, d2, d3], _ =>
      obtain ⟨n, hg⟩ := fields_open hT.E ht
      obtain ⟨n', hg'⟩ := fields_openF hT.E ht hf
      obtain ⟨x0, q0, -⟩ := open_int hT (hg 0 _ _ rfl)
      obtain ⟨x1, q1, -⟩ := open_int hT (hg 1 _ _ rfl)
      obtain ⟨v2, xs2, q2, h2, b2⟩ := open_compsF hT hB (hg' 2 _ _ rfl)
      obtain ⟨v3, xs3, q3, h3, b3⟩ := open_stepsF hT hB (hg' 3 _ _ rfl)
      simp only [List.drop_zero, List.drop_succ_cons, List.take_succ_cons, List.take_zero, List.cons.injEq, and_true] at q0 q1 q2 q3
      subst q0 q1 q2 q3
      exact ⟨⟨x0, x1, xs2, xs3⟩, ⟨_, _, rfl, h2, h3⟩, b2, b3⟩) h hf
  obtain ⟨h1, h2⟩ := sl_both hx
  rw [hB.E] at hb
  exact ⟨v, xs, e, h1, hb, h2⟩
theorem open_treeF {n : Nat} {d0 d1 d2 : Value} (h : ∃ y, DataW.trod enc P w base spare held n T.tT [d0, d1, d2] = some y ∧ Fit P T.tT y) : ∃ (t : TreeD) (nv : Value), d0 = .int .i64 t.root ∧ d1 = .int .i64 t.next ∧ d2 = nv ∧ NodesR w t.nodes nv ∧ RngN t.nodes ∧ BndN t.nodes := by
  obtain ⟨y, h, hf⟩ := h
  obtain ⟨n, hg⟩ := fields_open hT.Tr h
  obtain ⟨n', hg'⟩ := fields_openF hT.Tr h hf
  obtain ⟨x0, q0, -⟩ := open_int hT (hg 0 _ _ rfl)
  obtain ⟨x1, q1, -⟩ := open_int hT (hg 1 _ _ rfl)
  obtain ⟨v, xs, q2, h2, h3, h4⟩ := open_nodesF hT hB (hg' 2 _ _ rfl)
  simp only [List.drop_zero, List.drop_succ_cons, List.take_succ_cons, List.take_zero, List.cons.injEq, and_true] at q0 q1 q2
  subst q0 q1 q2
  exact ⟨⟨x0, x1, xs⟩, _, rfl, rfl, rfl, h2, h3, h4⟩
theorem open_msgF {fuel : Nat} {v : Value} {x : DataW H × List MemPlace} (hv : Value.okWide P w r b0 T.tM v) (h : DataW.trod enc P w base spare held fuel T.tM v.cells.toList = some x) (hf : Fit P T.tM x) :
    ∃ m ev env nv, v = aggM m ev env nv ∧ MsgR w m ev env nv ∧ RngN m.tree.nodes ∧ Bnd m := by
  obtain ⟨fs, hu, -⟩ := hT.M
  obtain ⟨cs, rfl, hl⟩ := okWide_struct hu hv
  rw [hT.cM] at hl
  have h' : DataW.trod enc P w base spare held fuel T.tM cs.toList = some x := h
  obtain ⟨l, rfl⟩ : ∃ l : List Value, cs = l.toArray := ⟨cs.toList, by simp⟩
  clear h hv
  have hl' : l.length = 13 := by simpa using hl
  match l, hl' with
  | [d0, d1, d2, d3, d4, d5, d6, d7, d8, d9, d10, d11, d12], _ =>
    obtain ⟨n, hg⟩ := fields_open hT.M h'
    obtain ⟨n', hg'⟩ := fields_openF hT.M h' hf
    obtain ⟨x0, q0, -⟩ := open_int hT (hg 0 _ _ rfl)
    obtain ⟨x1, q1, -⟩ := open_int hT (hg 1 _ _ rfl)
    obtain ⟨x2, q2, -⟩ := open_int hT (hg 2 _ _ rfl)
    obtain ⟨x3, q3, -⟩ := open_int hT (hg 3 _ _ rfl)
    obtain ⟨x4, q4, -⟩ := open_int hT (hg 4 _ _ rfl)
    obtain ⟨x5, q5, -⟩ := open_int hT (hg 5 _ _ rfl)
    obtain ⟨x6, q6⟩ := open_bool hT (hg 6 _ _ rfl)
    obtain ⟨x7, xs7, q7, h7, b7⟩ := open_compsF hT hB (hg' 7 _ _ rfl)
    obtain ⟨x8, xs8, q8, h8, b8⟩ := open_entriesF hT hB (hg' 8 _ _ rfl)
    obtain ⟨x9, q9, hz⟩ := open_str hT (hg 9 _ _ rfl)
    have k := hg' 10 _ _ rfl
    rw [hT.cT] at k
    obtain ⟨t, nv, e10, e11, e12, ht, hr, b10⟩ := open_treeF hT hB k
    simp only [List.drop_zero, List.drop_succ_cons, List.take_succ_cons, List.take_zero, List.cons.injEq, and_true] at q0 q1 q2 q3 q4 q5 q6 q7 q8 q9
    subst q0 q1 q2 q3 q4 q5 q6 q7 q8 q9 e10 e11 e12
    exact ⟨⟨x0, x1, x2, x3, x4, x5, x6, xs7, xs8, x9, t⟩, _, _, _, rfl, ⟨h7, h8, ht, hz⟩, hr, b7, b8, b10⟩
end
theorem bys : ByOk Tryz.prog ⟨3, 4, 9, 49, 48, 22, 51, 52, 128, 24, 26, 54, 23, 28⟩ :=
  ⟨by kernel_rfl, by kernel_rfl, by kernel_rfl, by kernel_rfl, by kernel_rfl⟩
def MsgVB (w : World) (m : MsgD) (v : Value) : Prop := ∃ ev env nv, v = aggM m ev env nv ∧ MsgR w m ev env nv ∧ RngN m.tree.nodes ∧ Bnd m
theorem open_msgvb {H : Type} {enc : TypeId × Value → H} {P : Program} {w : World} {base : Nat} {spare : Nat → Bool} {held : Bool} {r : Reach} {b0 : Nat} {T : Tys} {fuel : Nat} {v : Value} {d : DataW H} {p : List MemPlace} {ts : List TypeId} {ds : List (DataW H)} {j : Nat} (hT : TyOk P T) (hB : ByOk P T) (hv : Value.okWide P w r b0 T.tM v)
    (h : DataW.trod enc P w base spare held fuel T.tM v.cells.toList = some (d, p)) (hsz : (DataW.weightsEach P ts ds).all (· ≤ reachBytes) = true) (ht : ts[j]? = some T.tM) (hd : ds[j]? = some d) : ∃ m, MsgVB w m v :=
  open_msgF hT hB hv h (fun n hn => by
    have := List.all_eq_true.1 hsz _ (DataW.weights_mem_each ht hd n hn)
    exact (of_decide_eq_true this : n ≤ reachBytes))
end Go.Proofs.YtjeamfoicpgkhaaGreatDoor.MsgOpen
