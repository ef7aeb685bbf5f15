/- The document's parser, as plain functions: what it computes. Nothing of the program stands here. -/
import Derived.Test.YtkamhpbfebdhjaaGreatDoorLumpM
namespace Go.Proofs.YtkamhpbfebdhjaaGreatDoor.ParS
open Go.Proofs.YtkamhpbfebdhjaaGreatDoor.Tree Go.Proofs.YtkamhpbfebdhjaaGreatDoor.Data
set_option linter.unusedVariables false
structure TokD where
  kind : Int
  fr : Int
  up : Int
deriving DecidableEq
abbrev NS := List NodeD
def nodeS (ns : NS) (k f u : Int) : NS := ns ++ [⟨(ns.length : Nat), k, f, u, []⟩]
def addKid (x : NodeD) (c : Int) : NodeD := ⟨x.id, x.kind, x.fr, x.up, x.kids ++ [c]⟩
def kidS (ns : NS) (id : Nat) (c : Int) : NS := ns.modify id (addKid · c)
def upAt (ns : NS) (k : Int) : Int := (ns[k.toNat]?.map (·.up)).getD 0
def endOf (ns : NS) (z : Int) (x : NodeD) : Int := match x.kids.getLast? with | none => z | some k => max z (upAt ns k)
def setUp (x : NodeD) (u : Int) : NodeD := ⟨x.id, x.kind, x.fr, u, x.kids⟩
def closeS (ns : NS) (id : Nat) (z : Int) : NS := ns.modify id (fun x => setUp x (endOf ns z x))
def lackS (ns : NS) (id : Nat) (at_ : Int) : NS := kidS (nodeS ns 7 at_ at_) id (ns.length : Nat)
/-- Does a value begin with a token, so deep? -/
def startsS (t : TokD) (d : Nat) : Bool := if t.kind = 6 ∨ t.kind = 7 ∨ t.kind = 8 then true else if t.kind = 0 ∨ t.kind = 2 then decide (d ≤ 12) else false
section
variable (ts : List TokD) (e : Int)
def tokS (i : Nat) : TokD := ts[i]?.getD ⟨0, e, e⟩
abbrev PS := Nat × NS
abbrev VF := Nat → PS → Nat × PS
def strayS (id : Nat) (s : PS) : PS := (s.1 + 1, kidS (nodeS s.2 7 (tokS ts e s.1).fr (tokS ts e s.1).up) id (s.2.length : Nat))
variable (val : VF)
def wrapS (id d : Nat) (s : PS) : PS :=
  let t := tokS ts e s.1
  let x := s.2.length
  let r := val d (s.1, kidS (nodeS s.2 7 t.fr t.up) id (x : Nat))
  (r.2.1, closeS (kidS r.2.2 x (r.1 : Nat)) x t.up)
/-- Behind a pair's first text. -/
def colonS (x : Nat) (s : PS) : Int × PS :=
  if s.1 < ts.length ∧ (tokS ts e s.1).kind = 4 then ((tokS ts e s.1).up, (s.1 + 1, s.2)) else ((tokS ts e (s.1 - 1)).up, (s.1, lackS s.2 x (tokS ts e s.1).fr))
def tailS (x d : Nat) (s : PS) : PS :=
  if s.1 < ts.length ∧ startsS (tokS ts e s.1) (d + 1) = true then
    let r := val (d + 1) s
    (r.2.1, kidS r.2.2 x (r.1 : Nat))
  else (s.1, lackS s.2 x (tokS ts e s.1).fr)
def pairS (x d : Nat) (s : PS) : PS :=
  let r := val (d + 1) s
  let c := colonS ts e x (r.2.1, kidS r.2.2 x (r.1 : Nat))
  let q := tailS ts e val x d c.2
  (q.1, closeS q.2 x c.1)
def elemS (id closer d : Nat) (s : PS) : PS :=
  if closer = 3 then
    let r := val (d + 1) s
    (r.2.1, kidS r.2.2 id (r.1 : Nat))
  else if (tokS ts e s.1).kind = 6 then pairS ts e val s.2.length d (s.1, kidS (nodeS s.2 3 (tokS ts e s.1).fr (tokS ts e s.1).up) id (s.2.length : Nat))
  else wrapS ts e val id (d + 1) s
def loopS (id closer d : Nat) : Nat → Nat → PS → PS
  | 0, _, s => s
  | f + 1, st, s =>
    if s.1 < ts.length then
      let t := tokS ts e s.1
      if t.kind = closer then (s.1 + 1, closeS (if st = 2 then lackS s.2 id t.fr else s.2) id t.up)
      else if t.kind = 5 ∧ st = 1 then loopS id closer d f 2 (s.1 + 1, s.2)
      else if startsS t (d + 1) = true then loopS id closer d f 1 (elemS ts e val id closer d (s.1, if st = 1 then lackS s.2 id t.fr else s.2))
      else loopS id closer d f st (strayS ts e id s)
    else (s.1, closeS (lackS s.2 id e) id e)
end
section
variable (ts : List TokD) (e : Int)
def valueS : Nat → VF
  | 0, d, s => (0, s)
  | n + 1, d, s =>
    let t := tokS ts e s.1
    let x := s.2.length
    if t.kind = 6 then (x, (s.1 + 1, nodeS s.2 4 t.fr t.up))
    else if t.kind = 7 then (x, (s.1 + 1, nodeS s.2 5 t.fr t.up))
    else if t.kind = 8 then (x, (s.1 + 1, nodeS s.2 6 t.fr t.up))
    else if t.kind = 0 then (x, loopS ts e (valueS n) x 1 d (ts.length + 1) 0 (s.1 + 1, nodeS s.2 1 t.fr t.up))
    else (x, loopS ts e (valueS n) x 3 d (ts.length + 1) 0 (s.1 + 1, nodeS s.2 2 t.fr t.up))
/-- The whole text: what stands outside all brackets. -/
def topS : Nat → Bool → PS → Bool × PS
  | 0, one, s => (one, s)
  | f + 1, one, s =>
    if s.1 < ts.length then
      if startsS (tokS ts e s.1) 1 = true then
        if one = true then topS f true (wrapS ts e (valueS ts e ts.length) 0 1 s)
        else
          let r := valueS ts e ts.length 1 s
          topS f true (r.2.1, kidS r.2.2 0 (r.1 : Nat))
      else topS f one (strayS ts e 0 s)
    else (one, s)
def treeS : TreeD :=
  let r := topS ts e (ts.length + 1) false (0, nodeS [] 0 0 e)
  let ns := if r.1 = true then r.2.2 else lackS r.2.2 0 e
  ⟨0, (ns.length : Nat), ns⟩
end
/-! ### What the walks need: kids' ids are in range; the count of nodes is bounded. -/
def WF (ns : NS) : Prop := ∀ x ∈ ns, ∀ c ∈ x.kids, 0 ≤ c ∧ c < (ns.length : Nat)
theorem len_node (ns : NS) (k f u : Int) : (nodeS ns k f u).length = ns.length + 1 := by simp [nodeS]
theorem len_kid (ns : NS) (id : Nat) (c : Int) : (kidS ns id c).length = ns.length := by simp [kidS]
theorem len_close (ns : NS) (id : Nat) (z : Int) : (closeS ns id z).length = ns.length := by simp [closeS]
theorem len_lack (ns : NS) (id : Nat) (a : Int) : (lackS ns id a).length = ns.length + 1 := by simp [lackS, len_kid, len_node]
theorem wf_node {ns : NS} (h : WF ns) (k f u : Int) : WF (nodeS ns k f u) := by
  intro x hx c hc
  rw [len_node]
  rcases List.mem_append.1 hx with hx | hx
  · have := h x hx c hc
    omega
  · obtain rfl : x = _ := by simpa using hx
    simp at hc
theorem mem_modify {α : Type} {l : List α} {i : Nat} {f : α → α} {y : α} (h : y ∈ l.modify i f) : y ∈ l ∨ ∃ x ∈ l, y = f x := by
  obtain ⟨j, hj, rfl⟩ := List.mem_iff_getElem.1 h
  rw [List.getElem_modify]
  split
  · exact .inr ⟨_, List.getElem_mem _, rfl⟩
  · exact .inl (List.getElem_mem _)
theorem wf_kid {ns : NS} (h : WF ns) (id : Nat) {c : Int} (h0 : 0 ≤ c) (h1 : c < (ns.length : Nat)) : WF (kidS ns id c) := by
  intro x hx d hd
  rw [len_kid]
  rcases mem_modify hx with hx | ⟨y, hy, rfl⟩
  · exact h x hx d hd
  · rcases List.mem_append.1 hd with hd | hd
    · exact h y hy d hd
    · obtain rfl : d = c := by simpa using hd
      exact ⟨h0, h1⟩
theorem wf_close {ns : NS} (h : WF ns) (id : Nat) (z : Int) : WF (closeS ns id z) := by
  intro x hx d hd
  rw [len_close]
  rcases mem_modify hx with hx | ⟨y, hy, rfl⟩
  · exact h x hx d hd
  · exact h y hy d hd
theorem wf_lack {ns : NS} (h : WF ns) (id : Nat) (a : Int) : WF (lackS ns id a) :=
  wf_kid (wf_node h _ _ _) id (by omega) (by rw [len_node]; omega)
/-- How many children there are. -/
def tot (ns : NS) : Nat := (ns.map (·.kids.length)).sum
theorem tot_node (ns : NS) (k f u : Int) : tot (nodeS ns k f u) = tot ns := by simp [tot, nodeS]
theorem sum_modify {α : Type} (g : α → Nat) (f : α → α) (d : Nat) (hf : ∀ a, g (f a) ≤ g a + d) : ∀ (l : List α) (i : Nat), ((l.modify i f).map g).sum ≤ (l.map g).sum + d
  | [], i => by simp [List.modify_nil]
  | a :: l, 0 => by
    have := hf a
    simp only [List.modify_zero_cons, List.map_cons, List.sum_cons]
    omega
  | a :: l, i + 1 => by
    have := sum_modify g f d hf l i
    simp only [List.modify_succ_cons, List.map_cons, List.sum_cons]
    omega
theorem tot_kid (ns : NS) (id : Nat) (c : Int) : tot (kidS ns id c) ≤ tot ns + 1 := sum_modify _ _ 1 (fun a => by simp [addKid]) ns id
theorem tot_close (ns : NS) (id : Nat) (z : Int) : tot (closeS ns id z) ≤ tot ns := by
  have := sum_modify (fun x : NodeD => x.kids.length) (fun x => setUp x (endOf ns z x)) 0 (fun a => by simp [setUp]) ns id
  exact this
theorem tot_lack (ns : NS) (id : Nat) (a : Int) : tot (lackS ns id a) ≤ tot ns + 1 := by
  have := tot_kid (nodeS ns 7 a a) id (ns.length : Nat)
  rw [tot_node] at this
  exact this
theorem kids_le {ns : NS} {x : NodeD} (h : x ∈ ns) : x.kids.length ≤ tot ns := by
  unfold tot
  induction ns with
  | nil => cases h
  | cons y ns ih =>
    simp only [List.map_cons, List.sum_cons]
    rcases List.mem_cons.1 h with rfl | h
    · omega
    · have := ih h
      omega
/-- What becomes of a state: it goes on, its nodes are well formed, and grow by what the tokens pay for; each but u nodes more has a child more. -/
structure Fit (T : Nat) (s s' : PS) (k : Int) (u : Nat) : Prop where
  on : s.1 ≤ s'.1
  up : s'.1 ≤ T
  wf : WF s'.2
  grow : s.2.length ≤ s'.2.length
  pay : (s'.2.length : Int) + 5 * ((T : Int) - s'.1) ≤ (s.2.length : Int) + 5 * ((T : Int) - s.1) + k
  kids : tot s'.2 + s.2.length + u ≤ tot s.2 + s'.2.length
def ValFit (ts : List TokD) (val : VF) (n : Nat) : Prop := ∀ d s, s.1 < ts.length → ts.length ≤ s.1 + n → WF s.2 → Fit ts.length s (val d s).2 (-3) 1 ∧ s.1 < (val d s).2.1 ∧ (val d s).1 < (val d s).2.2.length ∧ s.2.length ≤ (val d s).1
theorem Fit.trans {T : Nat} {a b c : PS} {k l : Int} {u v : Nat} (h : Fit T a b k u) (h' : Fit T b c l v) : Fit T a c (k + l) (u + v) :=
  ⟨Nat.le_trans h.on h'.on, h'.up, h'.wf, Nat.le_trans h.grow h'.grow, by have := h.pay; have := h'.pay; omega, by have := h.kids; have := h'.kids; omega⟩
theorem Fit.le {T : Nat} {a b : PS} {k l : Int} {u : Nat} (h : Fit T a b k u) (hk : k ≤ l) : Fit T a b l u := ⟨h.on, h.up, h.wf, h.grow, by have := h.pay; omega, h.kids⟩
section
variable {ts : List TokD} {e : Int} {val : VF}
theorem kid_fit {T : Nat} {s s' : PS} {k : Int} {u : Nat} (h : Fit T s s' k (u + 1)) (x : Nat) {c : Nat} (hc : c < s'.2.length) : Fit T s (s'.1, kidS s'.2 x (c : Nat)) k u :=
  ⟨h.on, h.up, wf_kid h.wf x (by omega) (by omega), by simp only [len_kid]; exact h.grow, by simp only [len_kid]; exact h.pay, by have := h.kids; have := tot_kid s'.2 x (c : Nat); simp only [len_kid]; omega⟩
theorem close_fit {T : Nat} {s s' : PS} {k : Int} {u : Nat} (h : Fit T s s' k u) (x : Nat) (z : Int) : Fit T s (s'.1, closeS s'.2 x z) k u :=
  ⟨h.on, h.up, wf_close h.wf x z, by simp only [len_close]; exact h.grow, by simp only [len_close]; exact h.pay, by have := h.kids; have := tot_close s'.2 x z; simp only [len_close]; omega⟩
theorem lack_fit {T : Nat} {s : PS} (h : WF s.2) (hi : s.1 ≤ T) (x : Nat) (z : Int) : Fit T s (s.1, lackS s.2 x z) 1 0 :=
  ⟨Nat.le_refl _, hi, wf_lack h _ _, by simp [len_lack], by simp only [len_lack]; omega, by have := tot_lack s.2 x z; simp only [len_lack]; omega⟩
theorem node_fit {T : Nat} {s : PS} (h : WF s.2) (hi : s.1 ≤ T) (k f u : Int) : Fit T s (s.1, nodeS s.2 k f u) 1 1 :=
  ⟨Nat.le_refl _, hi, wf_node h _ _ _, by simp [len_node], by simp only [len_node]; omega, by simp only [len_node, tot_node]; omega⟩
theorem on_fit {T : Nat} {s : PS} (h : WF s.2) (hi : s.1 < T) : Fit T s (s.1 + 1, s.2) (-5) 0 :=
  ⟨by simp, by simp only; omega, h, Nat.le_refl _, by simp only; omega, by simp only; omega⟩
theorem stray_fit {id : Nat} {s : PS} (h : WF s.2) (hi : s.1 < ts.length) : Fit ts.length s (strayS ts e id s) (-4) 0 := by
  have h1 := on_fit h hi
  have h2 := h1.trans (node_fit h1.wf h1.up 7 (tokS ts e s.1).fr (tokS ts e s.1).up)
  exact kid_fit h2 id (c := s.2.length) (by simp [len_node])
theorem wrap_fit {n id d : Nat} {s : PS} (hv : ValFit ts val n) (h : WF s.2) (hi : s.1 < ts.length) (hn : ts.length ≤ s.1 + n) : Fit ts.length s (wrapS ts e val id d s) (-2) 0 ∧ s.1 < (wrapS ts e val id d s).1 := by
  have h1 := node_fit h (Nat.le_of_lt hi) 7 (tokS ts e s.1).fr (tokS ts e s.1).up
  have h2 := kid_fit h1 id (c := s.2.length) (by simp [len_node])
  obtain ⟨h3, b, c, q⟩ := hv d (s.1, kidS (nodeS s.2 7 (tokS ts e s.1).fr (tokS ts e s.1).up) id (s.2.length : Nat)) hi hn h2.wf
  exact ⟨close_fit (kid_fit (h2.trans h3) s.2.length c) _ _, b⟩
theorem colon_fit {x : Nat} {s : PS} (h : WF s.2) (hi : s.1 ≤ ts.length) : Fit ts.length s (colonS ts e x s).2 1 0 := by
  unfold colonS
  split
  · rename_i hc
    exact (on_fit h hc.1).le (by omega)
  · exact lack_fit h hi _ _
theorem tail_fit {n x d : Nat} {s : PS} (hv : ValFit ts val n) (h : WF s.2) (hi : s.1 ≤ ts.length) (hn : ts.length ≤ s.1 + n) : Fit ts.length s (tailS ts e val x d s) 1 0 := by
  unfold tailS
  split
  · rename_i hc
    obtain ⟨h3, b, c, q⟩ := hv (d + 1) s hc.1 hn h
    exact (kid_fit h3 x c).le (by omega)
  · exact lack_fit h hi _ _
/-- A pair: behind a text, whose value is a leaf. -/
theorem pair_fit {n x d : Nat} {s : PS} (hv : ValFit ts val n) (hx : Fit ts.length s (val (d + 1) s).2 (-4) 1) (h : WF s.2) (hi : s.1 < ts.length) (hn : ts.length ≤ s.1 + n) : Fit ts.length s (pairS ts e val x d s) (-2) 0 ∧ s.1 < (pairS ts e val x d s).1 := by
  obtain ⟨-, b, c, q⟩ := hv (d + 1) s hi hn h
  have f1 := kid_fit hx x c
  have f2 := colon_fit (ts := ts) (e := e) (x := x) f1.wf f1.up
  have f3 := tail_fit (ts := ts) (e := e) (x := x) (d := d) hv f2.wf f2.up (by have := f1.on; have := f2.on; simp only at *; omega)
  have f := close_fit ((f1.trans f2).trans f3) x (colonS ts e x ((val (d + 1) s).2.1, kidS (val (d + 1) s).2.2 x ((val (d + 1) s).1 : Nat))).1
  refine ⟨f, ?_⟩
  have h2 := f2.on
  have h3 := f3.on
  show s.1 < (tailS ts e val x d (colonS ts e x ((val (d + 1) s).2.1, kidS (val (d + 1) s).2.2 x ((val (d + 1) s).1 : Nat))).2).1
  simp only at h2 h3
  omega
/-- What is a text is a leaf. -/
def TextLeaf (ts : List TokD) (e : Int) (val : VF) (n : Nat) : Prop := ∀ d s, s.1 < ts.length → ts.length ≤ s.1 + n → (tokS ts e s.1).kind = 6 → val d s = (s.2.length, (s.1 + 1, nodeS s.2 4 (tokS ts e s.1).fr (tokS ts e s.1).up))
theorem leaf_fit {T : Nat} {s : PS} (h : WF s.2) (hi : s.1 < T) (k f u : Int) : Fit T s (s.1 + 1, nodeS s.2 k f u) (-4) 1 := by
  have h1 := on_fit h hi
  exact h1.trans (node_fit h1.wf h1.up k f u)
theorem elem_fit {n id closer d : Nat} {s : PS} (hv : ValFit ts val n) (hT : TextLeaf ts e val n) (h : WF s.2) (hi : s.1 < ts.length) (hn : ts.length ≤ s.1 + n) : Fit ts.length s (elemS ts e val id closer d s) (-1) 0 ∧ s.1 < (elemS ts e val id closer d s).1 := by
  unfold elemS
  split
  · obtain ⟨h3, b, c, q⟩ := hv (d + 1) s hi hn h
    exact ⟨(kid_fit h3 id c).le (by omega), b⟩
  · split
    · rename_i hk
      have h1 := node_fit h (Nat.le_of_lt hi) 3 (tokS ts e s.1).fr (tokS ts e s.1).up
      have h2 := kid_fit h1 id (c := s.2.length) (by simp [len_node])
      have ht := hT (d + 1) (s.1, kidS (nodeS s.2 3 (tokS ts e s.1).fr (tokS ts e s.1).up) id (s.2.length : Nat)) hi hn hk
      have hl := leaf_fit (T := ts.length) (s := (s.1, kidS (nodeS s.2 3 (tokS ts e s.1).fr (tokS ts e s.1).up) id (s.2.length : Nat))) h2.wf hi 4 (tokS ts e s.1).fr (tokS ts e s.1).up
      obtain ⟨h3, h4⟩ := pair_fit (e := e) (x := s.2.length) (d := d) hv (by rw [ht]; exact hl) h2.wf hi hn
      exact ⟨(h2.trans h3).le (by omega), h4⟩
    · obtain ⟨h3, h4⟩ := wrap_fit (e := e) (id := id) (d := d + 1) hv h hi hn
      exact ⟨h3.le (by omega), h4⟩
theorem loop_fit {n id closer d : Nat} (hv : ValFit ts val n) (hT : TextLeaf ts e val n) : ∀ (f st : Nat) (s : PS), WF s.2 → s.1 ≤ ts.length → ts.length ≤ s.1 + n → ts.length < s.1 + f → Fit ts.length s (loopS ts e val id closer d f st s) 1 0
  | 0, st, s, h, hi, hn, hf => by omega
  | f + 1, st, s, h, hi, hn, hf => by
    simp only [loopS]
    split
    · rename_i hlt
      split
      · have h1 : Fit ts.length s (s.1, if st = 2 then lackS s.2 id (tokS ts e s.1).fr else s.2) 1 0 := by
          split
          · exact lack_fit h hi _ _
          · exact ⟨Nat.le_refl _, hi, h, Nat.le_refl _, by simp only; omega, by simp only; omega⟩
        have h2 := h1.trans (on_fit h1.wf hlt)
        exact (close_fit h2 id (tokS ts e s.1).up).le (by omega)
      · split
        · have h1 := on_fit h hlt
          exact (h1.trans (loop_fit hv hT f 2 (s.1 + 1, s.2) h1.wf h1.up (by simp only; omega) (by simp only; omega))).le (by omega)
        · split
          · have h1 : Fit ts.length s (s.1, if st = 1 then lackS s.2 id (tokS ts e s.1).fr else s.2) 1 0 := by
              split
              · exact lack_fit h hi _ _
              · exact ⟨Nat.le_refl _, hi, h, Nat.le_refl _, by simp only; omega, by simp only; omega⟩
            obtain ⟨h2, h3⟩ := elem_fit (id := id) (closer := closer) (d := d) hv hT h1.wf hlt hn
            have h4 := h1.trans h2
            have h5 := h2.up
            exact (h4.trans (loop_fit hv hT f 1 _ h4.wf h4.up (by simp only at h3; omega) (by simp only at h3; omega))).le (by omega)
          · have h1 := stray_fit (ts := ts) (e := e) (id := id) h hlt
            exact (h1.trans (loop_fit hv hT f st _ h1.wf h1.up (by simp only [strayS]; omega) (by simp only [strayS]; omega))).le (by omega)
    · have h1 := lack_fit h hi id e
      exact close_fit h1 id e
theorem value_leaf (n : Nat) : TextLeaf ts e (valueS ts e n) n := by
  intro d s hi hn hk
  obtain ⟨m, rfl⟩ : ∃ m, n = m + 1 := ⟨n - 1, by omega⟩
  simp only [valueS]
  rw [if_pos hk]
theorem value_fit : ∀ n, ValFit ts (valueS ts e n) n
  | 0 => fun d s hi hn h => by omega
  | n + 1 => fun d s hi hn h => by
    have lf := fun k => leaf_fit (T := ts.length) h hi k (tokS ts e s.1).fr (tokS ts e s.1).up
    have ll : ∀ (id closer : Nat) (k : Int), Fit ts.length s (loopS ts e (valueS ts e n) id closer d (ts.length + 1) 0 (s.1 + 1, nodeS s.2 k (tokS ts e s.1).fr (tokS ts e s.1).up)) (-3) 1 ∧ s.1 < (loopS ts e (valueS ts e n) id closer d (ts.length + 1) 0 (s.1 + 1, nodeS s.2 k (tokS ts e s.1).fr (tokS ts e s.1).up)).1 := fun id closer k => by
      have h1 := loop_fit (e := e) (id := id) (closer := closer) (d := d) (value_fit n) (value_leaf n) (ts.length + 1) 0 (s.1 + 1, nodeS s.2 k (tokS ts e s.1).fr (tokS ts e s.1).up) (lf k).wf (lf k).up (by simp only; omega) (by simp only; omega)
      exact ⟨((lf k).trans h1).le (by omega), by have := h1.on; simp only at this; omega⟩
    have gl : ∀ (id closer : Nat) (k : Int), s.2.length < (loopS ts e (valueS ts e n) id closer d (ts.length + 1) 0 (s.1 + 1, nodeS s.2 k (tokS ts e s.1).fr (tokS ts e s.1).up)).2.length := fun id closer k => by
      have h1 := loop_fit (e := e) (id := id) (closer := closer) (d := d) (value_fit n) (value_leaf n) (ts.length + 1) 0 (s.1 + 1, nodeS s.2 k (tokS ts e s.1).fr (tokS ts e s.1).up) (lf k).wf (lf k).up (by simp only; omega) (by simp only; omega)
      have := h1.grow
      simp only [len_node] at this
      omega
    simp only [valueS]
    split
    · exact ⟨(lf 4).le (by omega), by simp, by simp [len_node], Nat.le_refl _⟩
    · split
      · exact ⟨(lf 5).le (by omega), by simp, by simp [len_node], Nat.le_refl _⟩
      · split
        · exact ⟨(lf 6).le (by omega), by simp, by simp [len_node], Nat.le_refl _⟩
        · split
          · exact ⟨(ll _ _ 1).1, (ll _ _ 1).2, gl _ _ 1, Nat.le_refl _⟩
          · exact ⟨(ll _ _ 2).1, (ll _ _ 2).2, gl _ _ 2, Nat.le_refl _⟩
end
end Go.Proofs.YtkamhpbfebdhjaaGreatDoor.ParS
