/- A tree that may be, as the reference's loops look at it. Nothing of the program stands here. -/
import Derived.Test.YtjeamfoicpgkhaaGreatDoorRefReach
namespace Go.Proofs.YtjeamfoicpgkhaaGreatDoor.TreeL
open Go.RowKit Go.Lib Go.Proofs.YtjeamfoicpgkhaaGreatDoor.Tree Go.Proofs.YtjeamfoicpgkhaaGreatDoor.Data Go.Proofs.YtjeamfoicpgkhaaGreatDoor.May Go.Proofs.YtjeamfoicpgkhaaGreatDoor.TreeEq Go.Proofs.YtjeamfoicpgkhaaGreatDoor.RefReach
set_option linter.unusedVariables false
set_option linter.unusedSimpArgs false
def prevId (xs : List NodeD) : Nat → Int
  | 0 => -1
  | i + 1 => match xs[i]? with | some x => x.id | none => -1
theorem alone_get {t : TreeD} {size : Int} : ∀ {xs : List NodeD} {before : Int}, aloneAll t size before xs → ∀ (i : Nat) (h : i < xs.length), aloneP t size (match i with | 0 => before | j + 1 => prevId xs (j + 1)) xs[i]
  | [], _, _, _, h => absurd h (Nat.not_lt_zero _)
  | x :: xs, before, ha, 0, _ => ha.1
  | x :: xs, before, ha, i + 1, h => by
    have := alone_get ha.2 i (by simpa using h)
    simp only [List.getElem_cons_succ]
    cases i with
    | zero => simpa [prevId] using this
    | succ j => simpa [prevId] using this
theorem alone_at {t : TreeD} {size : Int} {xs : List NodeD} (ha : aloneAll t size (-1) xs) (i : Nat) (h : i < xs.length) : aloneP t size (prevId xs i) xs[i] := by
  have := alone_get ha i h
  cases i <;> exact this
theorem alone_of {t : TreeD} {size : Int} : ∀ {xs : List NodeD} {before : Int}, (∀ (i : Nat) (h : i < xs.length), aloneP t size (match i with | 0 => before | j + 1 => prevId xs (j + 1)) xs[i]) → aloneAll t size before xs
  | [], _, _ => trivial
  | x :: xs, before, ha => ⟨ha 0 (by simp), alone_of fun i h => by
      have := ha (i + 1) (by simpa using h)
      simp only [List.getElem_cons_succ] at this
      cases i with
      | zero => simpa [prevId] using this
      | succ j => simpa [prevId] using this⟩
theorem alone_all {t : TreeD} {size : Int} {xs : List NodeD} (h : ∀ (i : Nat) (h : i < xs.length), aloneP t size (prevId xs i) xs[i]) : aloneAll t size (-1) xs :=
  alone_of fun i hi => by
    have := h i hi
    cases i <;> exact this
/-- How often each place stands in a list. -/
def cnt (n : Nat) (L : List Nat) : List Nat := (List.range n).map fun k => L.count k
theorem cnt_len (n : Nat) (L : List Nat) : (cnt n L).length = n := by simp [cnt]
theorem cnt_at {n : Nat} {L : List Nat} {k : Nat} (h : k < n) : (cnt n L)[k]? = some (L.count k) := by simp [cnt, h]
theorem cnt_nil (n : Nat) : cnt n [] = List.replicate n 0 := by
  refine List.ext_getElem (by simp [cnt]) fun i h1 h2 => ?_
  simp [cnt]
theorem cnt_snoc {n k : Nat} (L : List Nat) (h : k < n) : (cnt n L).set k (L.count k + 1) = cnt n (L ++ [k]) := by
  refine List.ext_getElem (by simp [cnt]) fun i h1 h2 => ?_
  rw [List.getElem_set]
  have hi : i < n := by simpa [cnt] using h2
  simp only [cnt, List.getElem_map, List.getElem_range, List.count_append]
  by_cases e : k = i
  · subst e
    simp
  · rw [if_neg e, List.count_eq_zero.2 (show i ∉ [k] by simpa using fun e' => e e'.symm)]
    omega
theorem kidsOk_drop {xs : List NodeD} {up : Int} {ks : List Int} {j : Nat} (h : j < ks.length) (f : Int) : kidsOk xs up (ks.drop j) f ↔ ∃ k y, posOf xs ks[j] = some k ∧ xs[k]? = some y ∧ y.kind ≠ 0 ∧ f ≤ y.fr ∧ y.up ≤ up ∧ kidsOk xs up (ks.drop (j + 1)) y.up := by
  rw [List.drop_eq_getElem_cons h, kidsOk]
theorem kids_found {xs : List NodeD} {up : Int} : ∀ {ks : List Int} {fr : Int}, kidsOk xs up ks fr → ∀ id ∈ ks, ∃ k y, posOf xs id = some k ∧ xs[k]? = some y ∧ y.kind ≠ 0
  | [], _, _, _, h => by simp at h
  | a :: ks, fr, ⟨k, y, h1, h2, h3, _, _, h4⟩, id, h => by
    rcases List.mem_cons.1 h with rfl | h
    · exact ⟨k, y, h1, h2, h3⟩
    · exact kids_found h4 id h
theorem pos_take (xs : List NodeD) {ks : List Int} {j k : Nat} (h : j < ks.length) (hp : posOf xs ks[j] = some k) : (ks.take (j + 1)).filterMap (posOf xs) = (ks.take j).filterMap (posOf xs) ++ [k] := by
  rw [List.take_succ_eq_append_getElem h, List.filterMap_append, List.filterMap_cons, hp]
  rfl
theorem flat_take (xs : List NodeD) {i : Nat} (h : i < xs.length) : (xs.take (i + 1)).flatMap (kpos xs) = (xs.take i).flatMap (kpos xs) ++ kpos xs xs[i] := by
  rw [List.take_succ_eq_append_getElem h, List.flatMap_append]
  simp
theorem count_le (xs : List NodeD) (M : Nat) : ∀ (l : List NodeD), (∀ x ∈ l, x.kids.length ≤ M) → (l.flatMap (kpos xs)).length ≤ l.length * M
  | [], _ => by simp
  | x :: l, h => by
    have h1 := count_le xs M l fun y hy => h y (by simp [hy])
    have h2 : (kpos xs x).length ≤ M := Nat.le_trans (List.length_filterMap_le _ _) (h x (by simp))
    rw [List.flatMap_cons, List.length_append, List.length_cons, Nat.succ_mul]
    omega
/-- What the loops have found. -/
structure Gone (t : TreeD) (size : Int) : Prop where
  lim : treeLim t size
  nodes : ∀ (i : Nat) (h : i < t.nodes.length), aloneP t size (prevId t.nodes i) t.nodes[i] ∧ kidsOk t.nodes t.nodes[i].up t.nodes[i].kids t.nodes[i].fr
theorem Gone.found {t : TreeD} {size : Int} (h : Gone t size) : RefReach.Found t.nodes := fun x hx id hid => by
  obtain ⟨i, hi, rfl⟩ := List.getElem_of_mem hx
  obtain ⟨k, y, hk, _⟩ := kids_found (h.nodes i hi).2 id hid
  exact ⟨k, hk⟩
theorem Gone.kind {t : TreeD} {size : Int} (h : Gone t size) {k : Nat} (hk : k ∈ t.nodes.flatMap (kpos t.nodes)) : ∃ y, t.nodes[k]? = some y ∧ y.kind ≠ 0 := by
  obtain ⟨x, hx, hk⟩ := List.mem_flatMap.1 hk
  obtain ⟨i, hi, rfl⟩ := List.getElem_of_mem hx
  unfold kpos at hk
  rw [List.mem_filterMap] at hk
  obtain ⟨id, hid, hp⟩ := hk
  obtain ⟨k', y, hk', hy, h0⟩ := kids_found (h.nodes i hi).2 id hid
  rw [hp] at hk'
  injection hk' with hk'
  subst hk'
  exact ⟨y, hy, h0⟩
theorem Gone.nodup {t : TreeD} {size : Int} (h : Gone t size) (hp : ∀ k x, t.nodes[k]? = some x → x.kind ≠ 0 → (t.nodes.flatMap (kpos t.nodes)).count k = 1) : (t.nodes.flatMap (kpos t.nodes)).Nodup :=
  List.nodup_iff_count.2 fun k => by
    by_cases hk : k ∈ t.nodes.flatMap (kpos t.nodes)
    · obtain ⟨y, hy, h0⟩ := h.kind hk
      rw [hp k y hy h0]
      omega
    · rw [List.count_eq_zero.2 hk]
      omega
theorem Gone.root {t : TreeD} {size : Int} (h : Gone t size) (h1 : (t.nodes.filter fun x => decide (x.kind = 0)).length = 1) : ∃ r, posOf t.nodes t.root = some r ∧ r < t.nodes.length := by
  have : t.nodes.filter (fun x => decide (x.kind = 0)) ≠ [] := fun e => by rw [e] at h1; simp at h1
  obtain ⟨x, hx⟩ := List.exists_mem_of_ne_nil _ this
  obtain ⟨hx, h0⟩ := List.mem_filter.1 hx
  obtain ⟨i, hi, rfl⟩ := List.getElem_of_mem hx
  have hr := ((h.nodes i hi).1.1 (by simpa using h0)).1
  cases hp : posOf t.nodes t.root with
  | none =>
    unfold posOf at hp
    rw [List.findIdx?_eq_none_iff] at hp
    have := hp _ (List.getElem_mem hi)
    rw [hr] at this
    simp at this
  | some r =>
    obtain ⟨y, hy, _⟩ := posOf_some hp
    exact ⟨r, rfl, (List.getElem?_eq_some_iff.1 hy).1⟩
theorem Gone.ref {t : TreeD} {size : Int} (h : Gone t size) (hp : ∀ k x, t.nodes[k]? = some x → x.kind ≠ 0 → (t.nodes.flatMap (kpos t.nodes)).count k = 1) (h1 : (t.nodes.filter fun x => decide (x.kind = 0)).length = 1) {r : Nat} (hr : posOf t.nodes t.root = some r) :
    treeB t size = decide (reachF t.nodes (t.nodes.length + 1) r = t.nodes.length) := by
  by_cases hq : reachF t.nodes (t.nodes.length + 1) r = t.nodes.length
  · rw [decide_eq_true hq, tree_iff]
    refine ⟨h.lim, alone_all fun i hi => (h.nodes i hi).1, fun x hx => ?_, h1, hp, fun r' hr' => ?_⟩
    · obtain ⟨i, hi, rfl⟩ := List.getElem_of_mem hx
      exact (h.nodes i hi).2
    · rw [hr] at hr'
      injection hr' with hr'
      subst hr'
      exact hq
  · rw [decide_eq_false hq, ← Bool.not_eq_true, tree_iff]
    exact fun hh => hq (hh.reach r hr)
theorem no_lim {t : TreeD} {size : Int} (h : ¬ treeLim t size) : treeB t size = false := by rw [← Bool.not_eq_true, tree_iff]; exact fun hh => h hh.lim
theorem no_alone {t : TreeD} {size : Int} {i : Nat} (hi : i < t.nodes.length) (h : ¬ aloneP t size (prevId t.nodes i) t.nodes[i]) : treeB t size = false := by rw [← Bool.not_eq_true, tree_iff]; exact fun hh => h (alone_at hh.alone i hi)
theorem no_kids {t : TreeD} {size : Int} {i : Nat} (hi : i < t.nodes.length) (h : ¬ kidsOk t.nodes t.nodes[i].up t.nodes[i].kids t.nodes[i].fr) : treeB t size = false := by rw [← Bool.not_eq_true, tree_iff]; exact fun hh => h (hh.kids _ (List.getElem_mem hi))
theorem no_parent {t : TreeD} {size : Int} {k : Nat} {x : NodeD} (hx : t.nodes[k]? = some x) (h0 : x.kind ≠ 0) (h : (t.nodes.flatMap (kpos t.nodes)).count k ≠ 1) : treeB t size = false := by rw [← Bool.not_eq_true, tree_iff]; exact fun hh => h (hh.parents k x hx h0)
theorem no_root {t : TreeD} {size : Int} (h : (t.nodes.filter fun x => decide (x.kind = 0)).length ≠ 1) : treeB t size = false := by rw [← Bool.not_eq_true, tree_iff]; exact fun hh => h hh.roots
/-- The nodes gone over so far. -/
def Upto (t : TreeD) (size : Int) (k : Nat) : Prop := ∀ (j : Nat) (h : j < t.nodes.length), j < k → aloneP t size (prevId t.nodes j) t.nodes[j] ∧ kidsOk t.nodes t.nodes[j].up t.nodes[j].kids t.nodes[j].fr
theorem prev_id {xs : List NodeD} {m : Nat} (h : m < xs.length) : prevId xs (m + 1) = xs[m].id := by simp [prevId, List.getElem?_eq_getElem h]
theorem prev_nn {t : TreeD} {size : Int} : ∀ {k : Nat}, Upto t size k → k ≤ t.nodes.length → -1 ≤ prevId t.nodes k
  | 0, _, _ => by simp [prevId]
  | k + 1, h, hk => by
    have h1 := prev_nn (k := k) (fun j hj hl => h j hj (by omega)) (by omega)
    have h2 := (h k (by omega) (by omega)).1.2.1
    rw [prev_id (by omega)]
    omega
theorem prev_pos {t : TreeD} {size : Int} {k : Nat} (h : Upto t size (k + 1)) (hk : k + 1 ≤ t.nodes.length) : 0 ≤ prevId t.nodes (k + 1) := by
  have h1 := prev_nn (k := k) (fun j hj hl => h j hj (by omega)) (by omega)
  have h2 := (h k (by omega) (by omega)).1.2.1
  rw [prev_id (by omega)]
  omega
theorem Upto.next {t : TreeD} {size : Int} {k : Nat} (h : Upto t size k) (hk : k < t.nodes.length) (h1 : aloneP t size (prevId t.nodes k) t.nodes[k]) (h2 : kidsOk t.nodes t.nodes[k].up t.nodes[k].kids t.nodes[k].fr) : Upto t size (k + 1) := fun j hj hl => by
  rcases Nat.lt_succ_iff_lt_or_eq.1 hl with hl | rfl
  · exact h j hj hl
  · exact ⟨h1, h2⟩
theorem roots_take (xs : List NodeD) {i : Nat} (h : i < xs.length) : ((xs.take (i + 1)).filter fun x => decide (x.kind = 0)).length = ((xs.take i).filter fun x => decide (x.kind = 0)).length + (if xs[i].kind = 0 then 1 else 0) := by
  rw [List.take_succ_eq_append_getElem h, List.filter_append, List.length_append]
  congr 1
  by_cases h0 : xs[i].kind = 0
  · rw [if_pos h0, List.filter_cons, if_pos (by simpa using h0)]; rfl
  · rw [if_neg h0, List.filter_cons, if_neg (by simpa using h0)]; rfl
end Go.Proofs.YtjeamfoicpgkhaaGreatDoor.TreeL
