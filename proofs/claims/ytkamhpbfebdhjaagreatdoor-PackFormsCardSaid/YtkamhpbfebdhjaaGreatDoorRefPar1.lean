/- The document's parser: its state in memory; a new node, a new child. -/
import Derived.Test.YtkamhpbfebdhjaaGreatDoorRefLex4
import Derived.Test.YtkamhpbfebdhjaaGreatDoorTr2
import Derived.StillTailTactics
namespace Go.Proofs.YtkamhpbfebdhjaaGreatDoor.RefPar1
open Go.RowKit Go.Lib Go.Proofs.YtkamhpbfebdhjaaGreatDoor.Mem Go.Proofs.YtkamhpbfebdhjaaGreatDoor.Read Go.Proofs.YtkamhpbfebdhjaaGreatDoor.Tree Go.Proofs.YtkamhpbfebdhjaaGreatDoor.Data Go.Proofs.YtkamhpbfebdhjaaGreatDoor.OwnR Go.Proofs.YtkamhpbfebdhjaaGreatDoor.Tr Go.Proofs.YtkamhpbfebdhjaaGreatDoor.Tr2 Go.Proofs.YtkamhpbfebdhjaaGreatDoor.ParS Go.Proofs.YtkamhpbfebdhjaaGreatDoor.LexS Go.Proofs.YtkamhpbfebdhjaaGreatDoor.RefLex4
set_option linter.unusedVariables false
set_option linter.unusedSimpArgs false
abbrev TP : TypeId := 56
/-- The parser's block. -/
def PB (w : World) (b : Nat) (tv : Value) (i en rt nx : Int) (nv : Value) : Prop := w.heap[b]? = some (.cells #[tv, .int .i64 i, .int .i64 en, .int .i64 rt, .int .i64 nx, nv] TP (0, 0))
/-- What the parser turns: its own block, rows of nodes and of numbers from a place on. -/
def PF (b base : Nat) (w : World) (k : Nat) : Prop := k = b ∨ (base ≤ k ∧ ∃ cs t, w.heap[k]? = some (.cells cs t (0, 0)) ∧ (t = TN ∨ t = TI))
theorem pf_next {b base : Nat} {F : Nat → Prop} {w W W' : World} (h : Step (PF b base w) w W) (h' : Step F W W') (hF : ∀ j, F j → j < w.heap.size → PF b base W j) : Step (PF b base w) w W' := h.trans h' (fun j f hlt => by
  rcases Classical.em (PF b base w j) with hp | hp
  · exact hp
  · have e := h.block j hlt hp
    rcases hF j f hlt with rfl | ⟨hb, cs, t, hc, ht⟩
    · exact .inl rfl
    · exact .inr ⟨hb, cs, t, by rw [← e]; exact hc, ht⟩)
theorem pf_trans {b base : Nat} {w w1 w2 : World} (h : Step (PF b base w) w w1) (h' : Step (PF b base w1) w1 w2) : Step (PF b base w) w w2 := pf_next h h' (fun _ f _ => f)
/-- The parser's state. -/
structure PST (w : World) (b base : Nat) (ts : List TokD) (en : Int) (i : Nat) (ns : NS) (tv nv : Value) (ys : List (NodeD × Value)) : Prop where
  blk : PB w b tv i en 0 0 nv
  tks : TksW base w ts tv
  nodes : NodesW base w ys nv
  eq : ys.map (·.1) = ns
  apart : Apart ys
  le : base ≤ w.heap.size
def PS' (w : World) (b base : Nat) (ts : List TokD) (en : Int) (tv : Value) (s : PS) : Prop := ∃ nv ys, PST w b base ts en s.1 s.2 tv nv ys
theorem PST.len {w : World} {b base : Nat} {ts : List TokD} {en : Int} {i : Nat} {ns : NS} {tv nv : Value} {ys : List (NodeD × Value)} (h : PST w b base ts en i ns tv nv ys) : ys.length = ns.length := by rw [← h.eq, List.length_map]
theorem PST.no {w w' : World} {b base : Nat} {ts : List TokD} {en : Int} {i : Nat} {ns : NS} {tv nv : Value} {ys : List (NodeD × Value)} (h : PST w b base ts en i ns tv nv ys) (hs : Step No w w') : PST w' b base ts en i ns tv nv ys :=
  ⟨hs.blk h.blk (fun f => f), RowO.no (stabTk _) h.tks hs, nodes_no h.nodes hs, h.eq, h.apart, Nat.le_trans h.le hs.size⟩
theorem PS'.no {w w' : World} {b base : Nat} {ts : List TokD} {en : Int} {tv : Value} {s : PS} (h : PS' w b base ts en tv s) (hs : Step No w w') : PS' w' b base ts en tv s := by
  obtain ⟨nv, ys, h⟩ := h
  exact ⟨nv, ys, h.no hs⟩
def Out (v : Value) (w : World) (b base : Nat) (ts : List TokD) (en : Int) (tv : Value) (s : PS) (e : Ending) (w' : World) : Prop := e = .returned v ∧ PS' w' b base ts en tv s ∧ Step (PF b base w) w w'
theorem tks_row {base : Nat} {w w' : World} {ts : List TokD} {tv : Value} (h : TksW base w ts tv) {F : Nat → Prop} (hs : Step F w w') (hF : Types (fun t => t ≠ TTk ∧ True) base w F) : TksW base w' ts tv := RowO.step (stabTk base) h hs hF
set_option maxHeartbeats 4000000 in
theorem node_s (w : World) (b base : Nat) (ts : List TokD) (en : Int) (tv : Value) (s : PS) (kind fr up : Int) (h : PS' w b base ts en tv s) (hl : s.2.length ≤ 5000) :
    Calls Tryz.prog 13 #[.pointer (some ⟨b, 0, none⟩), .int .i64 kind, .int .i64 fr, .int .i64 up] w (Out (.int .i64 (s.2.length : Nat)) w b base ts en tv (s.1, nodeS s.2 kind fr up)) := by
  obtain ⟨i, ns⟩ := s
  obtain ⟨nv, ys, h⟩ := h
  simp only at h hl ⊢
  have hle := h.len
  rw [← hle] at hl ⊢
  obtain ⟨A, c, rfl, -, -⟩ := row_slice h.nodes.1
  have c5 := blk_cell h.blk 5
  simp at c5
  have H := Lib.hid h
  have hm9 : ys.length + 1 ≤ maxLen := by unfold maxLen; omega
  have hb9 : (ys.length + 1) * 56 ≤ 140737488355328 := by omega
  have HO4 := Lib.hid (h.no (Step.alloc (Step.refl No w) (.cells #[.int .i64 (ys.length : Nat), .int .i64 kind, .int .i64 fr, .int .i64 up, .slice none 0 0] TN)))
  have HE := Lib.hid hle
  clear h hle
  go_enter Tryz.func13, Tryz.ntmps13
  go_wp2_with (at_builtin; go_loud (refine list_append_own _ rfl (.tmp 21) (.tmp 27) 23 98 _ 5 56 rfl Tryz.underlying23 infoN rfl (by decide) (.slice A ys.length c) ys.length (ys.flatMap encN) rfl (by exact HO4.out.nodes.1) ⟨w.heap.size, 0, none⟩ 1 1 [.int .i64 (ys.length : Nat), .int .i64 kind, .int .i64 fr, .int .i64 up, .slice none 0 0] rfl rfl (by exact cells_new w #[.int .i64 (ys.length : Nat), .int .i64 kind, .int .i64 fr, .int .i64 up, .slice none 0 0] TN) (by simp [Value.oneCell']) hm9 hb9 ?_; intro v5 w5 hown hg hat; have hr5 := RowO.next (stabN _) (tsI (by decide)) HO4.out.nodes HO4.out.le (x := (⟨(ys.length : Nat), kind, fr, up, []⟩, .slice none 0 0)) (nil_ints _ _) hown hg hat; have hP5 := ((hg.block b (by have := blk_lt H.out.blk; simp; omega) (fun e => row_ne H.out.nodes.1 H.out.blk (by decide) e.symm)).trans (blk_alloc H.out.blk _)); have hs5 : Step (PF b base w) w w5 := ((Step.refl (PF b base w) w).alloc _).grown hg (fun k hk _ => (row_block H.out.nodes.1 hk).elim fun cs hcs => .inr ⟨HO4.out.nodes.2.1 k hk, cs, TN, hcs, .inl rfl⟩); have d5 := blk_cell hP5 5; have f5 := blk_free hP5 5; simp at d5; have ht5 := tks_row HO4.out.tks ((Step.refl (fun k => (Value.slice A ys.length c).ownBlock = some k) _).grown hg (fun k hk _ => hk)) (Types.row HO4.out.nodes.1 ⟨by decide, trivial⟩); have HR6 := Lib.hid (nodes_go hr5 (w' := w5.setCell ⟨b, 5, none⟩ v5) (F := fun k => k = b) (by refine set_at (Step.refl _ _) ?_ _ <;> rfl) (Types.at hP5 ⟨by decide, by decide⟩)); have HT6 := Lib.hid (tks_row ht5 (w' := w5.setCell ⟨b, 5, none⟩ v5) (F := fun k => k = b) (by refine set_at (Step.refl _ _) ?_ _ <;> rfl) (Types.at hP5 ⟨by decide, trivial⟩)); have HP6 := Lib.hid (blk_set hP5 5 v5); have HS6 := Lib.hid (hs5.setCell (p := ⟨b, 5, none⟩) (fun _ => .inl rfl) v5); obtain ⟨A5, c5', rfl, -, -⟩ := row_slice hown; clear hown hg hat hr5 hP5 hs5 ht5))
  go_ret
  exact ⟨rfl, ⟨_, _, ⟨by simpa [PB] using HP6.out, HT6.out, HR6.out, by simp [nodeS, H.out.eq, HE.out], apart_node H.out.apart _, Nat.le_trans H.out.le HS6.out.size⟩⟩, HS6.out⟩
theorem modify_at {ns : NS} {k : Nat} (hk : k < ns.length) (f : NodeD → NodeD) : ns.modify k f = ns.set k (f ns[k]) := by
  apply List.ext_getElem
  · simp
  · intro j h1 h2
    rw [List.getElem_modify, List.getElem_set]
    split
    · rename_i e; subst e; rfl
    · rfl
theorem map_set {ys : List (NodeD × Value)} {ns : NS} (h : ys.map (·.1) = ns) (k : Nat) (x : NodeD) (v : Value) : (ys.set k (x, v)).map (·.1) = ns.set k x := by rw [← h, List.map_set]
/-- A node under way, in a box of its own. -/
structure KM (w : World) (b base : Nat) (ts : List TokD) (en : Int) (i : Nat) (tv : Value) (g c : Nat) (ys : List (NodeD × Value)) (k X : Nat) (bx : Array Value) (ks : List Int) (v : Value) (W : World) : Prop where
  blk : PB W b tv i en 0 0 (.slice (some ⟨g, 0, none⟩) ys.length c)
  tks : TksW base W ts tv
  mid : Mid base W g c ys k
  ints : IntsR base W ks v
  apart : ∀ x, Apart (ys.set k (x, v))
  box : W.heap[X]? = some (.cells bx TN (0, 0))
  ne : X ≠ g
  ge : w.heap.size ≤ X
  le : base ≤ W.heap.size
  step : Step (PF b base w) w W
section
variable {w W W' : World} {b base : Nat} {ts : List TokD} {en : Int} {i : Nat} {ns : NS} {tv : Value} {g c : Nat} {ys : List (NodeD × Value)} {k X : Nat} {bx : Array Value} {ks : List Int} {v : Value}
theorem KM.of (h : PST w b base ts en i ns tv (.slice (some ⟨g, 0, none⟩) ys.length c) ys) (hk : k < ys.length) (hks : ys[k].1.kids = ks) (hv : ys[k].2 = v) (bx : Array Value) : KM w b base ts en i tv g c ys k w.heap.size bx ks v (w.alloc (.cells bx TN)) := by
  have hs : Step No w (w.alloc (.cells bx TN)) := (Step.refl No w).alloc _
  have h1 := h.no hs
  have hg := (h.nodes.1.lt g rfl).2
  refine ⟨h1.blk, h1.tks, Mid.of h1.nodes k, by have := h1.nodes.2.2 _ (List.getElem_mem hk); unfold subN at this; rw [hks, hv] at this; exact this, fun x => ?_, blk_new _ _, by omega, Nat.le_refl _, h1.le, hs.none⟩
  exact apart_set h.apart h.nodes.2.2 hk (.inl (by rw [hv]))
theorem KM.no (h : KM w b base ts en i tv g c ys k X bx ks v W) (hs : Step No W W') : KM w b base ts en i tv g c ys k X bx ks v W' :=
  ⟨hs.blk h.blk (fun f => f), RowO.no (stabTk _) h.tks hs, h.mid.no hs, ints_no h.ints hs, h.apart, hs.blk h.box (fun f => f), h.ne, h.ge, Nat.le_trans h.le hs.size, h.step.trans hs (fun _ f _ => f.elim)⟩
theorem KM.set (h : KM w b base ts en i tv g c ys k X bx ks v W) (j : Nat) (u : Value) : KM w b base ts en i tv g c ys k X (bx.setIfInBounds j u) ks v (W.setCell ⟨X, j, none⟩ u) := by
  have hS : Step (fun k => k = X) W (W.setCell ⟨X, j, none⟩ u) := by refine set_at (Step.refl _ _) ?_ _ <;> rfl
  exact ⟨blk_set_other h.blk (blk_ne h.box h.blk (by decide)) _, tks_row h.tks hS (Types.at h.box ⟨by decide, trivial⟩), h.mid.set h.box h.ne j u, ints_go h.ints hS h.box (by decide), h.apart, blk_set h.box j u, h.ne, h.ge, by simpa [World.setCell] using h.le, pf_next h.step hS (fun j e hlt => absurd hlt (by rw [e]; have := h.ge; omega))⟩
theorem KM.out (h : KM w b base ts en i tv g c ys k X bx ks v W) (hk : k < ys.length) (heq : ys.map (·.1) = ns) (x : NodeD) (hx : x.kids = ks) :
    PS' (sets5 W g (k * 5) (.int .i64 x.id) (.int .i64 x.kind) (.int .i64 x.fr) (.int .i64 x.up) v) b base ts en tv (i, ns.set k x) ∧ Step (PF b base w) w (sets5 W g (k * 5) (.int .i64 x.id) (.int .i64 x.kind) (.int .i64 x.fr) (.int .i64 x.up) v) := by
  subst hx
  obtain ⟨h1, h2⟩ := h.mid.out hk (x, v) h.ints
  obtain ⟨cs, hb⟩ := h.mid.blk
  refine ⟨⟨_, _, ⟨?_, tks_row h.tks h2 (Types.at hb ⟨by decide, trivial⟩), h1, map_set heq k x v, h.apart x, Nat.le_trans h.le h2.size⟩⟩, pf_next h.step h2 (fun j e _ => .inr ⟨by rw [e]; exact h.mid.ge, cs, TN, by rw [e]; exact hb, .inl rfl⟩)⟩
  exact h2.blk h.blk (fun e => blk_ne h.blk hb (by decide) e)
/-- A child more: behind append. -/
theorem KM.more {w2 w3 : World} {v3 : Value} {ch : Int} (h : KM w b base ts en i tv g c ys k X bx ks v w2) (hk : k < ys.length) (hks : ys[k].1.kids = ks) (hv : ys[k].2 = v) (hA : Apart ys) (ho : w3.ownsRow 0 TI 1 v3 (ks.length + 1) (ks.flatMap encI ++ [.int .i64 ch])) (hg : w2.grownBy w3 v.ownBlock) (hat : v3.ownBlock = v.ownBlock ∨ v3.ownBlock = some w2.heap.size) : KM w b base ts en i tv g c ys k X bx (ks ++ [ch]) v3 w3 := by
  have sg : Step (fun j => v.ownBlock = some j) w2 w3 := (Step.refl _ w2).grown hg (fun j hj _ => hj)
  have ty : ∀ {Us : TypeId → Prop}, Us TI → Types Us base w2 (fun j => v.ownBlock = some j) := fun hU => Types.row h.ints.1 hU
  have hb : ∀ {j : Nat} {cs : Array Value} {t : TypeId}, w2.heap[j]? = some (.cells cs t (0, 0)) → t ≠ TI → w3.heap[j]? = some (.cells cs t (0, 0)) := fun hj ht => sg.blk hj (fun e => by
    obtain ⟨cs2, h2⟩ := row_block h.ints.1 e
    exact blk_ne hj h2 ht rfl)
  have hall : ∀ a ∈ ys, IntsR base w2 a.1.kids a.2 := fun a ha => by
    obtain ⟨j, hj, rfl⟩ := List.mem_iff_getElem.1 ha
    by_cases hjk : j = k
    · subst hjk; rw [hks, hv]; exact h.ints
    · exact h.mid.kids j hj hjk
  refine ⟨hb h.blk (by decide), tks_row h.tks sg (ty ⟨by decide, trivial⟩), h.mid.grown hA hk (by rw [hks, hv]; exact h.ints) (by rw [hv]; exact hg), ints_more h.ints h.le ho hat, fun x => ?_, hb h.box (by decide), h.ne, h.ge, Nat.le_trans h.le sg.size, pf_next h.step sg (fun j e _ => (row_block h.ints.1 e).elim fun cs hcs => .inr ⟨h.ints.2.1 j e, cs, TI, hcs, .inr rfl⟩)⟩
  exact apart_set hA hall hk (by rcases hat with hat | hat; exact .inl (by rw [hv]; exact hat); exact .inr ⟨_, hat, Nat.le_refl _⟩)
end
/-- What a node in a row, and its kids, look like. -/
theorem PST.node {w : World} {b base : Nat} {ts : List TokD} {en : Int} {i : Nat} {ns : NS} {tv nv : Value} {ys : List (NodeD × Value)} (h : PST w b base ts en i ns tv nv ys) {k : Nat} (hk : k < ns.length) :
    ∃ g c A ck, nv = .slice (some ⟨g, 0, none⟩) ys.length c ∧ ∃ hky : k < ys.length, ys[k].1 = ns[k] ∧ ys[k].2 = .slice A ns[k].kids.length ck ∧ IntsR base w ns[k].kids (.slice A ns[k].kids.length ck) ∧ w.cell? ⟨g, k * 5, none⟩ = some (.int .i64 ns[k].id) ∧ w.cell? ⟨g, k * 5 + 1, none⟩ = some (.int .i64 ns[k].kind) ∧ w.cell? ⟨g, k * 5 + 2, none⟩ = some (.int .i64 ns[k].fr) ∧ w.cell? ⟨g, k * 5 + 3, none⟩ = some (.int .i64 ns[k].up) ∧ w.cell? ⟨g, k * 5 + 4, none⟩ = some (.slice A ns[k].kids.length ck) := by
  have hle := h.len
  have hky : k < ys.length := by omega
  have heq : ys[k].1 = ns[k] := by
    have e := h.eq
    subst e
    simp
  obtain ⟨g, c, rfl, -, -⟩ := row_form h.nodes.1 (by omega)
  have hI : IntsR base w ys[k].1.kids ys[k].2 := h.nodes.2.2 _ (List.getElem_mem hky)
  have key := fun j hj => node_at h.nodes hky j hj
  rw [heq] at hI
  obtain ⟨A, ck, hv, -, -⟩ := row_slice hI.1
  rw [hv] at hI
  have hcells : encN ys[k] = [.int .i64 ns[k].id, .int .i64 ns[k].kind, .int .i64 ns[k].fr, .int .i64 ns[k].up, .slice A ns[k].kids.length ck] := by unfold encN nodeCells; rw [heq, hv]
  rw [hcells] at key
  exact ⟨g, c, A, ck, rfl, hky, heq, hv, hI, key 0 (by decide), key 1 (by decide), key 2 (by decide), key 3 (by decide), key 4 (by decide)⟩
set_option maxHeartbeats 8000000 in
set_option maxRecDepth 100000 in
theorem kid_s (w : World) (b base : Nat) (ts : List TokD) (en : Int) (tv : Value) (s : PS) (k : Nat) (ch : Int) (h : PS' w b base ts en tv s) (hk : k < s.2.length) (ht : tot s.2 ≤ 5000) :
    Calls Tryz.prog 18 #[.pointer (some ⟨b, 0, none⟩), .int .i64 (k : Nat), .int .i64 ch] w (Out (.tuple #[]) w b base ts en tv (s.1, kidS s.2 k ch)) := by
  obtain ⟨i, ns⟩ := s
  obtain ⟨nv, ys, h⟩ := h
  simp only at h ht hk ⊢
  obtain ⟨g, c, A, ck, rfl, hky, heq, hv, hI, k0, k1, k2, k3, k4⟩ := h.node hk
  have hkl : ns[k].kids.length ≤ 5000 := Nat.le_trans (kids_le (List.getElem_mem hk)) ht
  have HOUT : Hid (kidS ns k ch = ns.set k (addKid ns[k] ch)) := Lib.hid (modify_at hk _)
  rw [HOUT.out]
  clear HOUT
  generalize hx : ns[k] = x at *
  obtain ⟨id, kd, fr, up, ks⟩ := x
  simp only at hv hI k0 k1 k2 k3 k4 hkl
  have c5 := blk_cell h.blk 5
  simp at c5
  have hi0 : (0 : Int) ≤ k := by omega
  have hi1 : (k : Int) < ys.length := by omega
  have HK1 := Lib.hid (KM.of h hky (ks := ks) (by rw [heq]) hv #[.int .i64 id, .int .i64 kd, .int .i64 fr, .int .i64 up, .slice A ks.length ck])
  have HV : Hid (ys[k].2 = .slice A ks.length ck ∧ ys[k].1.kids = ks) := Lib.hid ⟨hv, by rw [heq]⟩
  obtain ⟨n, hn⟩ : ∃ n, ks.length = n := ⟨_, rfl⟩
  rw [hn] at hkl k4 HV HK1
  have HKl := Lib.hid hn
  have HEq := Lib.hid h.eq
  have HA := Lib.hid h.apart
  clear hn hv hI h hx heq
  have hm9 : n + 1 ≤ maxLen := by unfold maxLen; omega
  have hb9 : (n + 1) * 8 ≤ 140737488355328 := by omega
  go_enter Tryz.func18, Tryz.ntmps18
  go_upto_region 1 with (fail)
  generalize hW : World.alloc w _ = w1 at *
  generalize w.heap.size = X at *
  clear hW k0 k1 k2 k3 k4 c5
  have HK2 := Lib.hid (HK1.out.no (Step.alloc (Step.refl No w1) (.cells #[.int .i64 ch] TI)))
  have x4' : w1.cell? ⟨X, 4, none⟩ = some (.slice A n ck) := blk_cell HK1.out.box 4
  have x4 : (w1.alloc (.cells #[.int .i64 ch] 3)).cell? ⟨X, 4, none⟩ = some (.slice A n ck) := blk_cell HK2.out.box 4
  go_upto_region 2 with (at_builtin; go_loud (refine list_append_own _ rfl (.tmp 16) (.tmp 18) 34 3 _ 1 8 rfl Tryz.underlying34 infoI rfl (by decide) (.slice A n ck) n (ks.flatMap encI) rfl (by have := HK2.out.ints.1; rw [HKl.out] at this; exact this) ⟨w1.heap.size, 0, none⟩ 1 1 [.int .i64 ch] rfl rfl (by exact cells_new w1 #[.int .i64 ch] TI) (by simp [Value.oneCell']) hm9 hb9 ?_; intro v3 w3 hown hg hat; have HK3 := Lib.hid (HK2.out.more hky HV.out.2 HV.out.1 HA.out (by rw [HKl.out]; exact hown) hg hat); have x4 := (show w3.cell? ⟨X, 4, none⟩ = some (.slice A n ck) from blk_cell HK3.out.box 4); have f4 := blk_free HK3.out.box 4; obtain ⟨A3, c3, rfl, -, -⟩ := row_slice hown; clear hown hg hat))
  have HK4 := Lib.hid (HK3.out.set 4 (.slice A3 (n + 1) c3))
  generalize hW : World.setCell w3 _ _ = w4 at *
  clear hW x4 f4 x4' HK1 HK2 HK3
  have HK5 := Lib.hid (HK4.out.no (Step.drew (Step.refl No w4)))
  have c5 := blk_cell HK4.out.blk 5
  have x0 := blk_cell HK4.out.box 0
  have x1 := blk_cell HK4.out.box 1
  have x2 := blk_cell HK4.out.box 2
  have x3 := blk_cell HK4.out.box 3
  have x4 := blk_cell HK4.out.box 4
  simp at c5 x0 x1 x2 x3 x4
  go_still_tail 8, (by kernel_rfl)
  change wpList _ _ _ _ _ w4.drew
  generalize hD : World.drew w4 = w5 at *
  clear hD c5 x0 x1 x2 x3 x4 HK4
  have hr5 := HK5.out.mid.row
  have f0 := hr5.frozenAt (k * 5)
  have f1 := hr5.frozenAt (k * 5 + 1)
  have f2 := hr5.frozenAt (k * 5 + 2)
  have f3 := hr5.frozenAt (k * 5 + 3)
  have f4 := hr5.frozenAt (k * 5 + 4)
  have key := fun j hj => mid_at HK5.out.mid hky j hj
  have k0 := key 0 (by decide)
  have k1 := key 1 (by decide)
  have k2 := key 2 (by decide)
  have k3 := key 3 (by decide)
  have k4 := key 4 (by decide)
  simp [encN, nodeCells] at k0 k1 k2 k3 k4
  have HF := Lib.hid (HK5.out.out hky HEq.out (addKid ⟨id, kd, fr, up, ks⟩ ch) rfl)
  simp only [sets5, addKid, setUp] at HF
  clear key hr5
  go_wp2
  go_end0
  exact ⟨rfl, HF.out⟩
end Go.Proofs.YtkamhpbfebdhjaaGreatDoor.RefPar1
