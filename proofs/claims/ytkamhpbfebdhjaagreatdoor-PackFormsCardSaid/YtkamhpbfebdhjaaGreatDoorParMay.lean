/- May a tree be of a text of so many bytes? The program's answer. -/
import Derived.Test.YtkamhpbfebdhjaaGreatDoorIndex
import Derived.Test.YtkamhpbfebdhjaaGreatDoorLumpA
import Derived.Test.YtkamhpbfebdhjaaGreatDoorLumpB
namespace Go.Proofs.YtkamhpbfebdhjaaGreatDoor.ParMay
open Go.RowKit Go.Lib Go.Maps Go.Proofs.YtkamhpbfebdhjaaGreatDoor.Mem Go.Proofs.YtkamhpbfebdhjaaGreatDoor.Read Go.Proofs.YtkamhpbfebdhjaaGreatDoor.Tree Go.Proofs.YtkamhpbfebdhjaaGreatDoor.Data Go.Proofs.YtkamhpbfebdhjaaGreatDoor.May Go.Proofs.YtkamhpbfebdhjaaGreatDoor.CompMay Go.Proofs.YtkamhpbfebdhjaaGreatDoor.Alone Go.Proofs.YtkamhpbfebdhjaaGreatDoor.Index Go.Proofs.YtkamhpbfebdhjaaGreatDoor.QueueI Go.Proofs.YtkamhpbfebdhjaaGreatDoor.MsgR
set_option linter.unusedVariables false
set_option linter.unusedSimpArgs false
abbrev TT : TypeId := 25
abbrev TB : TypeId := 4
/-- The nodes seen. -/
def SO (S : Nat) (w : World) (seen : List Bool) : Prop := w.heap[S]? = some (.cells (seen.map Value.bool).toArray TB (0, 0))
theorem SO.at {S : Nat} {w : World} {seen : List Bool} (h : SO S w seen) {k : Nat} {b : Bool} (hk : seen[k]? = some b) : w.cell? ⟨S, k, none⟩ = some (.bool b) := by
  rw [blk_cell h]; simp [hk]
theorem SO.set {S : Nat} {w : World} {seen : List Bool} (h : SO S w seen) (k : Nat) : SO S (w.setCell ⟨S, k, none⟩ (.bool true)) (seen.set k true) := by
  have := blk_set h k (.bool true)
  unfold SO
  rw [this]
  congr 2
  refine Array.toList_inj.1 ?_
  simp [List.map_set]
theorem made_false (n : Nat) : madeCells #[.bool false] n = ((List.replicate n false).map Value.bool).toArray := by
  refine Array.ext (by simp [size_madeCells]) fun i h1 h2 => ?_
  simp [madeCells, Nat.mod_one]
/-- Nodes gone over, each by itself. -/
def L1 (t : TreeD) (size : Int) (w1 : World) (r b i : Value) (wr : World) : Prop :=
  ∃ (k : Nat) (ri bi : Int), k ≤ t.nodes.length ∧ i = .int .i64 k ∧ r = .int .i64 ri ∧ b = .int .i64 bi ∧ scan t size 0 t.nodes (-1) (-1) = scan t size k (t.nodes.drop k) ri bi ∧ -1 ≤ ri ∧ ri < k ∧ Step No w1 wr
theorem scan_drop {t : TreeD} {size : Int} {k : Nat} (h : k < t.nodes.length) (ri bi : Int) : scan t size k (t.nodes.drop k) ri bi = if aloneP t size bi t.nodes[k] ∧ ¬ (t.nodes[k].kind = 0 ∧ 0 ≤ ri) then scan t size (k + 1) (t.nodes.drop (k + 1)) (if t.nodes[k].kind = 0 then (k : Int) else ri) t.nodes[k].id else none := by
  rw [List.drop_eq_getElem_cons h, scan]
theorem tree_none {t : TreeD} {size : Int} (h : scan t size 0 t.nodes (-1) (-1) = none) : treeB t size = false := by simp [treeB, h]
theorem tree_neg {t : TreeD} {size r : Int} (h : scan t size 0 t.nodes (-1) (-1) = some r) (hr : r < 0) : treeB t size = false := by
  simp [treeB, h]
  intro _ h0
  omega
theorem tree_pos {t : TreeD} {size : Int} {r : Nat} (hl : treeLim t size) (h : scan t size 0 t.nodes (-1) (-1) = some (r : Int)) : treeB t size = bfs t.nodes t.nodes.length [r] ((List.replicate t.nodes.length false).set r true) := by
  simp [treeB, h, hl]
theorem infoBl : (Tryz.prog.info? TB).map (fun i => (i.zero, i.size, i.bytes)) = some (some (.bool false), 1, 1) := by kernel_rfl
def rowV (row : List Nat) : List Value := row.map fun (k : Nat) => Value.int .i64 (k : Int)
/-- Under way from the root on: g rounds are to come at most. -/
def L2 (xs : List NodeD) (S : Nat) (w1 : World) (b : Bool) (g : Nat) (v : Value) (wr : World) : Prop :=
  ∃ (row : List Nat) (seen : List Bool), b = bfs xs g row seen ∧ g = seen.count false + row.length ∧ g ≤ xs.length ∧ seen.length = xs.length ∧ (∀ k ∈ row, k < xs.length) ∧ QO TI w1.heap.size wr v (rowV row) ∧ SO S wr seen ∧ Step No w1 wr
/-- Among the children of a node. -/
def L3 (xs : List NodeD) (S : Nat) (w1 : World) (x : NodeD) (r : Nat) (seen0 : List Bool) (row0 : List Nat) (fr i v : Value) (wr : World) : Prop :=
  ∃ (j : Nat) (f : Int) (seen : List Bool) (row : List Nat), j ≤ x.kids.length ∧ i = .int .i64 j ∧ fr = .int .i64 f ∧ kidsGo xs x.up x.kids x.fr seen0 row0 = kidsGo xs x.up (x.kids.drop j) f seen row ∧
    seen.count false + row.length = seen0.count false + row0.length ∧ seen.length = xs.length ∧ (∀ k ∈ row, k < xs.length) ∧ QO TI w1.heap.size wr v (rowV (r :: row)) ∧ SO S wr seen ∧ Step No w1 wr
theorem kidsGo_drop {xs : List NodeD} {up : Int} {ks : List Int} {j : Nat} (h : j < ks.length) (f : Int) (seen : List Bool) (row : List Nat) : kidsGo xs up (ks.drop j) f seen row = (match posOf xs ks[j] with
    | none => none
    | some k => match xs[k]? with
      | none => none
      | some y => if seen[k]? = some false ∧ f ≤ y.fr ∧ y.up ≤ up then kidsGo xs up (ks.drop (j + 1)) y.up (seen.set k true) (row ++ [k]) else none) := by
  rw [List.drop_eq_getElem_cons h, kidsGo]
  rfl
theorem bfs_step {xs : List NodeD} {g r : Nat} {row : List Nat} {seen : List Bool} {x : NodeD} (hx : xs[r]? = some x) : bfs xs (g + 1) (r :: row) seen = (match kidsGo xs x.up x.kids x.fr seen row with
    | none => false
    | some p => bfs xs g p.2 p.1) := by
  rw [bfs]; simp only [hx]
  rfl
theorem bfs_nil {xs : List NodeD} {g : Nat} {seen : List Bool} : bfs xs g [] seen = seen.all id := by cases g <;> rfl
theorem rowV_cons (r : Nat) (row : List Nat) : rowV (r :: row) = .int .i64 (r : Int) :: rowV row := rfl
theorem rowV_len (row : List Nat) : (rowV row).length = row.length := by simp [rowV]
theorem rowV_snoc (row : List Nat) (k : Nat) : rowV (row ++ [k]) = rowV row ++ [.int .i64 (k : Int)] := by simp [rowV]
theorem infoIn : (Tryz.prog.info? TI).map (fun i => (i.zero, i.size, i.bytes)) = some (some (.int .i64 0), 1, 8) := by kernel_rfl
theorem count_start {n r : Nat} (h : r < n) : n = ((List.replicate n false).set r true).count false + 1 := by
  have := unseen_set (seen := List.replicate n false) (k := r) (by rw [List.getElem?_replicate, if_pos h])
  rw [List.count_replicate_self] at this
  omega
def RngN (xs : List NodeD) : Prop := ∀ x ∈ xs, Rng x.id ∧ ∀ k ∈ x.kids, Rng k
theorem turned_at {S : Nat} {w1 wr : World} {seen : List Bool} {v : Value} {xs : List Value} (hso : SO S wr seen) (hs : Step No w1 wr) (hq : QO TI w1.heap.size wr v xs) (hS : w1.heap.size ≤ S) (nq k : Nat) :
    SO S ((wr.drewN nq).setCell ⟨S, k, none⟩ (.bool true)) (seen.set k true) ∧ Step No w1 ((wr.drewN nq).setCell ⟨S, k, none⟩ (.bool true)) ∧ QO TI w1.heap.size ((wr.drewN nq).setCell ⟨S, k, none⟩ (.bool true)) v xs := by
  have h0 : SO S (wr.drewN nq) seen := hso
  have h1 : Step No wr (wr.drewN nq) := (Step.refl _ _).drewN nq
  refine ⟨h0.set k, (hs.drewN nq).setCell (p := ⟨S, k, none⟩) (fun e => absurd e (by simp only; omega)) _, (hq.no h1).step (F := fun i => i = S) (by refine set_at (Step.refl _ _) ?_ _ <;> rfl) fun i hi e => ?_⟩
  subst e
  exact OT.far h0 (by decide) hi
theorem look_eq {a b : Int} (h : (DataW.lit (.int .i64 a) : DataW Unit) = .lit (.int .i64 b)) : b = a := by
  injection h with h
  injection h with _ h
  exact h.symm
set_option maxHeartbeats 16000000 in
set_option maxRecDepth 100000 in
theorem may_any (t : TreeD) (nv : Value) (size : Int) (w : World) (hx : NodesR w t.nodes nv) (hr : RngN t.nodes) : Calls Tryz.prog 26 #[aggT t nv, .int .i64 size] w fun e w' => e = .returned (.bool (treeB t size)) ∧ Step No w w' := by
  obtain ⟨root, next, ns⟩ := t
  unfold aggT
  simp only at *
  obtain ⟨A, c, rfl, h1, h2⟩ := nodes_len hx
  unfold maxLen at h2
  have HX := Lib.hid hx
  have HR := Lib.hid hr
  clear hx hr h1 h2
  by_cases l1 : ns.length < 1
  · have l1b : decide ((ns.length : Int) < 1) = true := decide_eq_true (by omega)
    have HN : Hid (treeB ⟨root, next, ns⟩ size = false) := Lib.hid (by
      have : ¬ treeLim ⟨root, next, ns⟩ size := fun e => (by have := e.1; simp only at this; omega)
      simp [treeB, this])
    clear l1
    go_enter Tryz.func26, Tryz.ntmps26
    go_wp2
    go_ret
    exact ⟨ret_bool HN.out.symm, (by repeat' (first | exact Step.refl _ _ | with_reducible assumption | refine Step.drew ?_ | refine Step.drewN ?_ _ | refine Step.alloc ?_ _))⟩
  by_cases l2 : 2048 < ns.length
  · have l2b : decide ((2048 : Int) < ns.length) = true := decide_eq_true (by omega)
    have l1b : decide ((ns.length : Int) < 1) = false := decide_eq_false (by omega)
    have HN : Hid (treeB ⟨root, next, ns⟩ size = false) := Lib.hid (by
      have : ¬ treeLim ⟨root, next, ns⟩ size := fun e => (by have := e.2.1; simp only at this; omega)
      simp [treeB, this])
    clear l1 l2
    go_enter Tryz.func26, Tryz.ntmps26
    go_wp2
    go_ret
    exact ⟨ret_bool HN.out.symm, (by repeat' (first | exact Step.refl _ _ | with_reducible assumption | refine Step.drew ?_ | refine Step.drewN ?_ _ | refine Step.alloc ?_ _))⟩
  have l1b : decide ((ns.length : Int) < 1) = false := decide_eq_false (by omega)
  have l2b : decide ((2048 : Int) < ns.length) = false := decide_eq_false (by omega)
  by_cases l3 : next < 0
  · have HN : Hid (treeB ⟨root, next, ns⟩ size = false) := Lib.hid (by
      have : ¬ treeLim ⟨root, next, ns⟩ size := fun e => (by have := e.2.2.1; simp only at this; omega)
      simp [treeB, this])
    clear l1 l2
    go_enter Tryz.func26, Tryz.ntmps26
    go_wp2
    go_ret
    exact ⟨ret_bool HN.out.symm, (by repeat' (first | exact Step.refl _ _ | with_reducible assumption | refine Step.drew ?_ | refine Step.drewN ?_ _ | refine Step.alloc ?_ _))⟩
  by_cases l4 : 16777216 < next
  · have HN : Hid (treeB ⟨root, next, ns⟩ size = false) := Lib.hid (by
      have : ¬ treeLim ⟨root, next, ns⟩ size := fun e => (by have := e.2.2.2.1; simp only at this; omega)
      simp [treeB, this])
    clear l1 l2
    go_enter Tryz.func26, Tryz.ntmps26
    go_wp2
    go_ret
    exact ⟨ret_bool HN.out.symm, (by repeat' (first | exact Step.refl _ _ | with_reducible assumption | refine Step.drew ?_ | refine Step.drewN ?_ _ | refine Step.alloc ?_ _))⟩
  by_cases l5 : size < 0
  · have HN : Hid (treeB ⟨root, next, ns⟩ size = false) := Lib.hid (by
      have : ¬ treeLim ⟨root, next, ns⟩ size := fun e => (by have := e.2.2.2.2.1; omega)
      simp [treeB, this])
    clear l1 l2
    go_enter Tryz.func26, Tryz.ntmps26
    go_wp2
    go_ret
    exact ⟨ret_bool HN.out.symm, (by repeat' (first | exact Step.refl _ _ | with_reducible assumption | refine Step.drew ?_ | refine Step.drewN ?_ _ | refine Step.alloc ?_ _))⟩
  by_cases l6 : 4096 < size
  · have HN : Hid (treeB ⟨root, next, ns⟩ size = false) := Lib.hid (by
      have : ¬ treeLim ⟨root, next, ns⟩ size := fun e => (by have := e.2.2.2.2.2; omega)
      simp [treeB, this])
    clear l1 l2
    go_enter Tryz.func26, Tryz.ntmps26
    go_wp2
    go_ret
    exact ⟨ret_bool HN.out.symm, (by repeat' (first | exact Step.refl _ _ | with_reducible assumption | refine Step.drew ?_ | refine Step.drewN ?_ _ | refine Step.alloc ?_ _))⟩
  have HL : Hid (treeLim ⟨root, next, ns⟩ size) := Lib.hid ⟨by simp only; omega, by simp only; omega, by simp only; omega, by simp only; omega, by omega, by omega⟩
  have HB0 : Hid (∀ wx, Step No (w.alloc (.cells #[.int .i64 root, .int .i64 next, .slice A ns.length c] TT)) wx → wx.cell? ⟨w.heap.size, 0, none⟩ = some (.int .i64 root) ∧ wx.cell? ⟨w.heap.size, 0 + 1, none⟩ = some (.int .i64 next) ∧ wx.cell? ⟨w.heap.size, 0 + 2, none⟩ = some (.slice A ns.length c)) := Lib.hid fun wx h =>
    ⟨h.cell (blk_cell (blk_new _ _) 0) (fun f => f), h.cell (blk_cell (blk_new _ _) 1) (fun f => f), h.cell (blk_cell (blk_new _ _) 2) (fun f => f)⟩
  go_enter Tryz.func26, Tryz.ntmps26
  go_wp2_with fail
  refine (index_any _ _ 0 ns _ (HB0.out _ (Step.refl _ _)).2.2 (HX.out.to (by repeat' (first | exact Step.refl _ _ | with_reducible assumption | refine Step.drew ?_ | refine Step.drewN ?_ _ | refine Step.alloc ?_ _))) (by omega) (fun x hx => (HR.out x hx).1)).mono ?_
  rintro e w1 ⟨B, rfl, k', -, hk', hM, hB, hs1⟩
  obtain rfl : k' = ns.length := by injection hk' with _ e; omega
  have HBx : Hid (∀ wx, Step No w1 wx → wx.cell? ⟨w.heap.size, 0, none⟩ = some (.int .i64 root) ∧ wx.cell? ⟨w.heap.size, 1, none⟩ = some (.int .i64 next) ∧ wx.cell? ⟨w.heap.size, 2, none⟩ = some (.slice A ns.length c)) := Lib.hid fun wx h => HB0.out wx (hs1.trans h (fun _ f _ => f))
  have HX1 : Hid (∀ wx, Step No w1 wx → NodesR wx ns (.slice A ns.length c)) := Lib.hid fun wx h => (HX.out.to (Step.alloc (Step.refl _ _) _)).to (hs1.trans h (fun _ f _ => f))
  have HM : Hid (∀ wx, Step No w1 wx → IdxM wx B ns.length (idxD ns ns.length)) := Lib.hid fun wx h => hM.step h (fun f => f)
  have HS1 : Hid (Step No w w1) := Lib.hid ((Step.alloc (Step.refl _ _) _).trans hs1 (fun _ f _ => f))
  have HZ : Hid (w.heap.size < w1.heap.size) := Lib.hid (by have := hs1.size; simp at this; omega)
  have H0 : Hid (L1 ⟨root, next, ns⟩ size w1 (.int .i64 (-1)) (.int .i64 (-1)) (.int .i64 0) w1) := Lib.hid ⟨0, -1, -1, Nat.zero_le _, rfl, rfl, rfl, by simp, by omega, by omega, Step.refl _ _⟩
  obtain ⟨b0, b1, b2⟩ := HBx.out w1 (Step.refl _ _)
  clear hM hB hs1 HB0 HX b0 b1
  go_wp2
  go_loopw [6, 7, 52] (fun r b i wr => L1 ⟨root, next, ns⟩ size w1 r b i wr) (fun _ _ i _ => ns.length - (RowKit.intOf i).toNat)
  case atStart => exact H0.out
  case round =>
    obtain ⟨k, ri, bi, hk, rfl, rfl, rfl, hsc, hr1, hr2, hs⟩ := hrel
    clear b2
    obtain ⟨b0, b1, b2⟩ := HBx.out wr hs
    by_cases hlt : k < ns.length
    · obtain ⟨ad, kv, rfl, hkv, e0, e1, e2, e3, e4⟩ := nodes_cells (HX1.out wr hs) k hlt
      obtain ⟨A', c', rfl, -, -⟩ := ints_len hkv
      rw [scan_drop (by simpa using hlt)] at hsc
      simp only at hsc
      have hi1 : (k : Int) < ns.length := by omega
      have hi0 : (0 : Int) ≤ k := by omega
      generalize ns[k] = x at *
      have Hal := Lib.hid (aloneB_is ⟨root, next, ns⟩ size bi x)
      obtain ⟨id, kind, fr, up, ks⟩ := x
      simp only at e0 e1 e2 e3 e4 hsc Hal
      have Hhs := Lib.hid hs
      clear hs
      go_wp2_with fail
      refine (alone_t _ w.heap.size 0 (ad.add (k * 5)) root next size bi id kind fr up A' ks.length c' b0 b1 e0 e1 e2 e3 e4).mono ?_
      rintro e w2 ⟨rfl, hs2⟩
      rw [Hal.out]
      have g1 := hs2.cell e1 (fun f => f)
      have g0 := hs2.cell e0 (fun f => f)
      clear e0 e1 e2 e3 e4 hkv b0 b1 b2
      have Hhs2 := Lib.hid hs2
      clear hs2
      by_cases ha : aloneP ⟨root, next, ns⟩ size bi ⟨id, kind, fr, up, ks⟩
      · rw [decide_eq_true ha]
        by_cases hk0 : kind = 0
        · subst hk0
          by_cases hr0 : 0 ≤ ri
          · have HN : Hid (treeB ⟨root, next, ns⟩ size = false) := Lib.hid (tree_none (by rw [hsc, if_neg (fun e => e.2 ⟨rfl, hr0⟩)]))
            clear hsc ha
            go_wp2
            go_ret
            exact ⟨ret_bool HN.out.symm, HS1.out.trans (Hhs.out.trans Hhs2.out (fun _ f _ => f)) (fun _ f _ => f)⟩
          · have HN : Hid (scan ⟨root, next, ns⟩ size 0 ns (-1) (-1) = scan ⟨root, next, ns⟩ size (k + 1) (ns.drop (k + 1)) k id) := Lib.hid (by rw [hsc, if_pos ⟨ha, fun e => hr0 e.2⟩, if_pos rfl])
            clear hsc ha
            go_wp2
            go_roundw
            case rel => exact ⟨k + 1, k, id, hlt, rfl, rfl, rfl, HN.out, by omega, by omega, Hhs.out.trans Hhs2.out (fun _ f _ => f)⟩
            case measure => simp [RowKit.intOf]; omega
        · have HN : Hid (scan ⟨root, next, ns⟩ size 0 ns (-1) (-1) = scan ⟨root, next, ns⟩ size (k + 1) (ns.drop (k + 1)) ri id) := Lib.hid (by rw [hsc, if_pos ⟨ha, fun e => hk0 e.1⟩, if_neg hk0])
          have q0 : (kind == 0) = false := beq_eq_false_iff_ne.2 hk0
          clear hsc ha hk0
          go_wp2
          go_roundw
          case rel => exact ⟨k + 1, ri, id, hlt, rfl, rfl, rfl, HN.out, hr1, by omega, Hhs.out.trans Hhs2.out (fun _ f _ => f)⟩
          case measure => simp [RowKit.intOf]; omega
      · have HN : Hid (treeB ⟨root, next, ns⟩ size = false) := Lib.hid (tree_none (by rw [hsc, if_neg (fun e => ha e.1)]))
        rw [decide_eq_false ha]
        clear hsc ha
        go_wp2
        go_ret
        exact ⟨ret_bool HN.out.symm, HS1.out.trans (Hhs.out.trans Hhs2.out (fun _ f _ => f)) (fun _ f _ => f)⟩
    · obtain rfl : k = ns.length := by simp only at hk; omega
      rw [List.drop_length, scan] at hsc
      by_cases hr0 : ri < 0
      · have HN : Hid (treeB ⟨root, next, ns⟩ size = false) := Lib.hid (tree_neg hsc hr0)
        have Hhs := Lib.hid hs
        clear hs
        clear hsc
        go_wp2
        go_ret
        exact ⟨ret_bool HN.out.symm, HS1.out.trans Hhs.out (fun _ f _ => f)⟩
      · obtain ⟨r, rfl⟩ : ∃ r : Nat, ri = r := ⟨ri.toNat, by omega⟩
        have HN : Hid (treeB ⟨root, next, ns⟩ size = bfs ns ns.length [r] ((List.replicate ns.length false).set r true)) := Lib.hid (tree_pos HL.out hsc)
        have HAl := Lib.hid (TreeEq.alone_ids (TreeEq.scan_some (by omega) hsc).1).2
        have hmk := run_make_row' (P := Tryz.prog) 109 TB (.bool false) 1 Tryz.underlying109 infoBl rfl .i64 .i64 ns.length (by omega) (by omega)
        have Hhs := Lib.hid hs
        clear hs
        clear hsc
        go_upto_region 18 with (fail)
        have hS : SO wr.heap.size (wr.alloc (.cells (madeCells #[.bool false] ns.length) TB)) (List.replicate ns.length false) := by unfold SO; rw [← made_false]; exact blk_new _ _
        have hs2 : Step No w1 (wr.alloc (.cells (madeCells #[.bool false] ns.length) TB)) := Hhs.out.alloc _
        have HSz : Hid (w1.heap.size ≤ wr.heap.size) := Lib.hid Hhs.out.size
        obtain ⟨S, hSe⟩ : ∃ S, wr.heap.size = S := ⟨_, rfl⟩
        generalize hW : World.alloc wr _ = w2 at *
        rw [hSe] at hS HSz ⊢
        clear hmk hW Hhs
        have s0 := hS.at (k := r) (b := false) (by rw [List.getElem?_replicate, if_pos (by omega)])
        have s1 := blk_free hS r
        have hS3 := hS.set r
        have hs3 : Step No w1 (w2.setCell ⟨S, r, none⟩ (.bool true)) := hs2.setCell (p := ⟨S, r, none⟩) (fun e => absurd e (by have := HSz.out; simp only; omega)) _
        have HhS := Lib.hid hS
        have Hhs2 := Lib.hid hs2
        have HhSe := Lib.hid hSe
        clear hS hs2 hSe
        go_upto_region 19 with (fail)
        generalize hW : World.setCell w2 _ _ = w3 at *
        clear hW s0 s1
        have H2 : Hid (L2 ns S w1 (treeB ⟨root, next, ns⟩ size) ns.length (.slice (some ⟨w3.heap.size, 0, none⟩) 1 1) (w3.alloc (.cells #[.int .i64 r] TI))) := Lib.hid
          ⟨[r], _, HN.out, by simpa using count_start (by omega), Nat.le_refl _, by simp, fun k hk => by simp at hk; omega, QO.start w3 hs3.size _, blk_alloc hS3 _, hs3.alloc _⟩
        have HhS3 := Lib.hid hS3
        have Hhs3 := Lib.hid hs3
        clear hS3 hs3
        clear HhS Hhs2 HN b0 b1 b2
        obtain ⟨tb, htb⟩ : ∃ tb, treeB ⟨root, next, ns⟩ size = tb := ⟨_, rfl⟩
        rw [htb] at H2
        have HTB := Lib.hid htb
        clear htb
        go_wp2
        go_loopg [11] ns.length (fun g v wr => L2 ns S w1 tb g v wr)
        case atStart => exact H2.out
        case round =>
          obtain ⟨row, seen, hb, hg, hgl, hsl, hrow, hq, hso, hs⟩ := hrel
          obtain ⟨b0, b1, b2⟩ := HBx.out wr hs
          cases row with
          | nil =>
            obtain ⟨g, off, cc, rfl, hcc, -⟩ := hq.get
            have HN : Hid (tb = seen.all id) := Lib.hid (by rw [hb, bfs_nil])
            have Hhso := Lib.hid hso
            have Hhs := Lib.hid hs
            have Hhq := Lib.hid hq
            clear hso hs hq
            clear hb hg hrow
            go_wp2
            go_loopw [174] (fun i wx => ∃ j : Nat, j ≤ ns.length ∧ i = .int .i64 j ∧ (∀ b ∈ seen.take j, b = true) ∧ wx = wr) (fun i _ => ns.length - (RowKit.intOf i).toNat)
            case atStart => exact ⟨0, Nat.zero_le _, rfl, by simp, rfl⟩
            case round =>
              obtain ⟨j, hj, rfl, hall, rfl⟩ := hrel
              by_cases hjl : j < ns.length
              · have hj0 : (0 : Int) ≤ j := by omega
                have hj1 : (j : Int) < ns.length := by omega
                cases hsj : seen[j]? with
                | none => have := List.getElem?_eq_none_iff.1 hsj; omega
                | some sb =>
                  have s0 := Hhso.out.at hsj
                  cases sb with
                  | false =>
                    have HF : Hid (tb = false) := Lib.hid (by rw [HN.out, List.all_eq_false]; exact ⟨false, List.mem_of_getElem? hsj, by simp⟩)
                    clear hsj hall
                    go_wp2
                    go_ret
                    exact ⟨ret_bool (by rw [HTB.out, HF.out]), HS1.out.trans Hhs.out (fun _ f _ => f)⟩
                  | true =>
                    have HA : Hid (∀ b ∈ seen.take (j + 1), b = true) := Lib.hid (by
                      obtain ⟨hjs, hje⟩ := List.getElem?_eq_some_iff.1 hsj
                      rw [List.take_succ_eq_append_getElem hjs]
                      intro b hb
                      rcases List.mem_append.1 hb with hb | hb
                      · exact hall b hb
                      · have hb' : b = seen[j] := by simpa using hb
                        rw [hb', hje])
                    clear hsj hall
                    go_wp2
                    go_roundw
                    case rel => exact ⟨j + 1, hjl, rfl, HA.out, by trivial⟩
                    case measure => simp [RowKit.intOf]; omega
              · have HF : Hid (tb = true) := Lib.hid (by
                  rw [HN.out, List.all_eq_true]
                  intro b hb
                  rw [List.take_of_length_le (by omega)] at hall
                  exact hall b hb)
                clear hall
                go_wp2
                go_ret
                exact ⟨ret_bool (by rw [HTB.out, HF.out]), HS1.out.trans Hhs.out (fun _ f _ => f)⟩
          | cons r row =>
            have hrl := hrow r (by simp)
            obtain ⟨ad, kv, rfl, hkv, e0, e1, e2, e3, e4⟩ := nodes_cells (HX1.out w1 (Step.refl _ _)) r hrl
            obtain ⟨A', c', rfl, hc1, hc2⟩ := ints_len hkv
            obtain ⟨g', rfl⟩ : ∃ g', gk = g' + 1 := ⟨gk - 1, by simp at hg; omega⟩
            rw [bfs_step (List.getElem?_eq_getElem hrl)] at hb
            have HRk : Hid (∀ k ∈ ns[r].kids, Rng k) := Lib.hid (HR.out _ (List.getElem_mem hrl)).2
            generalize ns[r] = x at *
            obtain ⟨qg, qo, qc, rfl, hcc, hqc⟩ := hq.get
            rw [rowV_cons, List.length_cons, rowV_len] at *
            have q0 := hqc 0 (.int .i64 r) rfl
            rw [Nat.add_zero] at q0
            replace e2 := hs.cell e2 (fun f => f)
            replace e4 := hs.cell e4 (fun f => f)
            have E3 := Lib.hid e3
            have HK := Lib.hid hkv
            have hr0 : (0 : Int) ≤ r := by omega
            have hrn : (r : Int) < ns.length := by omega
            have hql : (0 : Int) < (row.length : Int) + 1 := by omega
            have hkm : (x.kids.length : Int) ≤ 9223372036854775807 := by unfold maxLen at hc2; omega
            have Hhb := Lib.hid hb
            have Hhg := Lib.hid hg
            have Hhsl := Lib.hid hsl
            have Hhrow := Lib.hid hrow
            have Hhq := Lib.hid hq
            have Hhso := Lib.hid hso
            have Hhs := Lib.hid hs
            clear hb hg hsl hrow hq hso hs
            clear hqc e0 e1 e3 hkv hc1 hc2 b0 b1
            go_upto_region 22 with (fail)
            go_quiet (fail)
            have H3 : Hid (L3 ns S w1 x r seen row (.int .i64 x.fr) (.int .i64 0) (.slice (some ⟨qg, qo, none⟩) (row.length + 1) qc) (wr.drewN nq)) := Lib.hid
              ⟨0, x.fr, seen, row, Nat.zero_le _, rfl, rfl, by rw [List.drop_zero], rfl, Hhsl.out, fun k hk => Hhrow.out k (by simp [hk]), Hhq.out, Hhso.out, Hhs.out.drewN nq⟩
            go_wp2
            obtain ⟨wo, rfl⟩ : ∃ wo : World, wo = wr := ⟨_, rfl⟩
            go_loopw [13, 117, 11] (fun fr i v wx => L3 ns S w1 x r seen row fr i v wx) (fun _ i _ _ => x.kids.length - (RowKit.intOf i).toNat)
            case atStart => exact H3.out
            case round =>
              clear H3 q0 e2 e4 b2
              obtain ⟨j, f, seen1, row1, hj, rfl, rfl, hk3, hcnt, hsl1, hrow1, hq1, hso1, hs1⟩ := hrel
              obtain ⟨b0, b1, b2⟩ := HBx.out wr hs1
              by_cases hjl : j < x.kids.length
              · rw [kidsGo_drop hjl] at hk3
                obtain ⟨ad2, rfl, k0⟩ := PatMay.ints_at (ints_to HK.out hs1) j hjl
                have HKY : Hid (keyOf Tryz.prog TI (.int .i64 x.kids[j]) = some (.int .i64 x.kids[j])) := Lib.hid (keyOf_int_mk Tryz.underlying3 (rng_wf (HRk.out _ (List.getElem_mem hjl))))
                have hj0 : (0 : Int) ≤ j := by omega
                have hj1 : (j : Int) < x.kids.length := by omega
                generalize x.kids[j] = a at *
                obtain ⟨pg, po, pc, rfl, hpc, -⟩ := hq1.get
                rw [rowV_cons, List.length_cons, rowV_len] at *
                cases hpos : posOf ns a with
                | none =>
                  have HF : Hid (Maps.has (idxD ns ns.length) (.int .i64 a) = false) := Lib.hid (idx_none HAl.out hpos)
                  have HN : Hid (tb = false) := Lib.hid (by rw [Hhb.out, hk3, hpos])
                  have Hhk3 := Lib.hid hk3
                  have Hhcnt := Lib.hid hcnt
                  have Hhsl1 := Lib.hid hsl1
                  have Hhrow1 := Lib.hid hrow1
                  have Hhq1 := Lib.hid hq1
                  have Hhso1 := Lib.hid hso1
                  have Hhs1 := Lib.hid hs1
                  have Hhpos := Lib.hid hpos
                  clear hk3 hcnt hsl1 hrow1 hq1 hso1 hs1 hpos
                  go_upto_region 28 with (at_lookup; refine wpList_lookup_own_ok_int _ rfl _ _ TMap rfl TI TI .i64 lawI Tryz.underlying105 Tryz.underlying3 (zeroI _) B ns.length (idxD ns ns.length) rfl (HM.out _ Hhs1.out) _ _ rfl HKY.out ?_; intro cx hat hwc; rw [HF.out]; clear hat hwc)
                  go_quiet (fail)
                  go_wp2
                  go_ret
                  exact ⟨ret_bool (by rw [HTB.out, HN.out]), HS1.out.trans (Hhs1.out.drewN _) (fun _ f _ => f)⟩
                | some k =>
                  obtain ⟨y, hy, hya⟩ := posOf_some hpos
                  obtain ⟨hkl, hyk⟩ := List.getElem?_eq_some_iff.1 hy
                  obtain ⟨HF, HA⟩ := idx_some HAl.out hpos (.lit (.int .i64 0))
                  have HF := Lib.hid HF
                  have HA := Lib.hid HA
                  simp only [hpos, hy] at hk3
                  obtain ⟨ad3, kv3, he3, -, -, -, y2, y3, -⟩ := nodes_cells (HX1.out wr hs1) k hkl
                  obtain rfl : ad = ad3 := by injection he3
                  rw [hyk] at y2 y3
                  have x3 := hs1.cell E3.out (fun f => f)
                  have hk0 : (0 : Int) ≤ k := by omega
                  have hk1 : (k : Int) < ns.length := by omega
                  clear he3 hyk hya hpos
                  have HY := Lib.hid hy
                  clear hy
                  cases hsk : seen1[k]? with
                  | none =>
                    have := List.getElem?_eq_none_iff.1 hsk
                    omega
                  | some sb =>
                    have s0 := hso1.at hsk
                    cases sb with
                    | true =>
                      have HN : Hid (tb = false) := Lib.hid (by rw [Hhb.out, hk3, if_neg (fun e => by rw [hsk] at e; cases e.1)])
                      have Hhk3 := Lib.hid hk3
                      have Hhcnt := Lib.hid hcnt
                      have Hhsl1 := Lib.hid hsl1
                      have Hhrow1 := Lib.hid hrow1
                      have Hhq1 := Lib.hid hq1
                      have Hhso1 := Lib.hid hso1
                      have Hhs1 := Lib.hid hs1
                      have Hhsk := Lib.hid hsk
                      clear hk3 hcnt hsl1 hrow1 hq1 hso1 hs1 hsk
                      go_upto_region 28 with (at_lookup; refine wpList_lookup_own_ok_int _ rfl _ _ TMap rfl TI TI .i64 lawI Tryz.underlying105 Tryz.underlying3 (zeroI _) B ns.length (idxD ns ns.length) rfl (HM.out _ Hhs1.out) _ _ rfl HKY.out ?_; intro cx hat hwc; rw [HF.out]; obtain rfl : cx = (k : Int) := look_eq (HA.out.symm.trans hat); clear hat hwc)
                      go_quiet (fail)
                      go_wp2
                      go_ret
                      exact ⟨ret_bool (by rw [HTB.out, HN.out]), HS1.out.trans (Hhs1.out.drewN _) (fun _ f _ => f)⟩
                    | false =>
                      by_cases hf : f ≤ y.fr
                      · have hfb : decide (y.fr < f) = false := decide_eq_false (by omega)
                        by_cases hu : y.up ≤ x.up
                        · have hub : decide (x.up < y.up) = false := decide_eq_false (by omega)
                          rw [if_pos ⟨hsk, hf, hu⟩] at hk3
                          have HU := Lib.hid (unseen_set hsk)
                          have hrl1 : row1.length ≤ 2048 := by have := Hhg.out; omega
                          have Hhk3 := Lib.hid hk3
                          have Hhcnt := Lib.hid hcnt
                          have Hhsl1 := Lib.hid hsl1
                          have Hhrow1 := Lib.hid hrow1
                          have Hhq1 := Lib.hid hq1
                          have Hhso1 := Lib.hid hso1
                          have Hhs1 := Lib.hid hs1
                          have Hhsk := Lib.hid hsk
                          clear hk3 hcnt hsl1 hrow1 hq1 hso1 hs1 hsk
                          have s1 := blk_free Hhso1.out k
                          go_upto_region 28 with (at_lookup; refine wpList_lookup_own_ok_int _ rfl _ _ TMap rfl TI TI .i64 lawI Tryz.underlying105 Tryz.underlying3 (zeroI _) B ns.length (idxD ns ns.length) rfl (HM.out _ Hhs1.out) _ _ rfl HKY.out ?_; intro cx hat hwc; rw [HF.out]; obtain rfl : cx = (k : Int) := look_eq (HA.out.symm.trans hat); clear hat hwc)
                          go_quiet (fail)
                          go_upto_region 31 with (fail)
                          have hW := turned_at Hhso1.out Hhs1.out Hhq1.out HSz.out nq k
                          generalize World.setCell (wr.drewN nq) _ _ = w4 at *
                          obtain ⟨hso4, hs4, hq4⟩ := hW
                          have HZ4 : Hid (w1.heap.size ≤ (w4.alloc (.cells #[.int .i64 k] TI)).heap.size) := Lib.hid (hs4.alloc _).size
                          have H4 : Hid (∀ v5 w5, QO TI w1.heap.size w5 v5 ((.int .i64 r :: rowV row1) ++ [.int .i64 k]) → Step (OT TI w1.heap.size (w4.alloc (.cells #[.int .i64 k] TI))) (w4.alloc (.cells #[.int .i64 k] TI)) w5 → L3 ns S w1 x r seen row (.int .i64 y.up) (.int .i64 ((j + 1 : Nat) : Int)) v5 w5) := Lib.hid fun v5 w5 h5 h6 =>
                            ⟨j + 1, y.up, seen1.set k true, row1 ++ [k], hjl, rfl, rfl, Hhk3.out, by have := Hhcnt.out; have := HU.out; rw [List.length_append, List.length_singleton]; omega, by rw [List.length_set]; exact Hhsl1.out, fun i hi => by
                              rcases List.mem_append.1 hi with hi | hi
                              · exact Hhrow1.out i hi
                              · obtain rfl : i = k := by simpa using hi
                                exact hkl, by rw [rowV_cons, rowV_snoc]; exact h5, h6.blk (blk_alloc hso4 _) (OT.far (blk_alloc hso4 _) (by decide)), Step.ofOT (hs4.alloc _) (Nat.le_refl _) h6⟩
                          have HQ4 := Lib.hid (hq4.no (Step.alloc (Step.refl No w4) (.cells #[.int .i64 k] TI)))
                          have c4 : (w4.alloc (.cells #[.int .i64 k] TI)).cell? ⟨w4.heap.size, 0, none⟩ = some (.int .i64 k) := blk_cell (blk_new _ _) 0
                          have C4 := Lib.hid c4
                          clear c4 hso4 hs4 hq4 s0 s1
                          go_wp2_with (at_builtin; refine list_append_q _ rfl (.tmp 167) (.tmp 169) 34 TI (.int .i64 0) 8 w1.heap.size rfl Tryz.underlying34 infoIn rfl (.slice (some ⟨pg, po, none⟩) (row1.length + 1) pc) (.int .i64 r :: rowV row1) rfl HQ4.out HZ4.out ⟨w4.heap.size, 0, none⟩ 1 (.int .i64 k) rfl C4.out rfl (by rw [List.length_cons, rowV_len]; unfold maxLen; omega) (by rw [List.length_cons, rowV_len]; omega) ?_; intro v5 w5 h5 h6; have HQ5 := Lib.hid (H4.out v5 w5 h5 h6); obtain ⟨g5, o5, n5, hv5, -, -⟩ := h5.get; rw [List.length_append, List.length_cons, List.length_singleton, rowV_len] at hv5; subst hv5; clear h5 h6)
                          go_roundw
                          case rel => exact HQ5.out
                          case measure => simp [RowKit.intOf]; omega
                        · have hub : decide (x.up < y.up) = true := decide_eq_true (by omega)
                          have HN : Hid (tb = false) := Lib.hid (by rw [Hhb.out, hk3, if_neg (fun e => hu e.2.2)])
                          have Hhk3 := Lib.hid hk3
                          have Hhcnt := Lib.hid hcnt
                          have Hhsl1 := Lib.hid hsl1
                          have Hhrow1 := Lib.hid hrow1
                          have Hhq1 := Lib.hid hq1
                          have Hhso1 := Lib.hid hso1
                          have Hhs1 := Lib.hid hs1
                          have Hhsk := Lib.hid hsk
                          clear hk3 hcnt hsl1 hrow1 hq1 hso1 hs1 hsk
                          go_upto_region 28 with (at_lookup; refine wpList_lookup_own_ok_int _ rfl _ _ TMap rfl TI TI .i64 lawI Tryz.underlying105 Tryz.underlying3 (zeroI _) B ns.length (idxD ns ns.length) rfl (HM.out _ Hhs1.out) _ _ rfl HKY.out ?_; intro cx hat hwc; rw [HF.out]; obtain rfl : cx = (k : Int) := look_eq (HA.out.symm.trans hat); clear hat hwc)
                          go_quiet (fail)
                          go_wp2
                          go_ret
                          exact ⟨ret_bool (by rw [HTB.out, HN.out]), HS1.out.trans (Hhs1.out.drewN _) (fun _ f _ => f)⟩
                      · have hfb : decide (y.fr < f) = true := decide_eq_true (by omega)
                        have HN : Hid (tb = false) := Lib.hid (by rw [Hhb.out, hk3, if_neg (fun e => hf e.2.1)])
                        have Hhk3 := Lib.hid hk3
                        have Hhcnt := Lib.hid hcnt
                        have Hhsl1 := Lib.hid hsl1
                        have Hhrow1 := Lib.hid hrow1
                        have Hhq1 := Lib.hid hq1
                        have Hhso1 := Lib.hid hso1
                        have Hhs1 := Lib.hid hs1
                        have Hhsk := Lib.hid hsk
                        clear hk3 hcnt hsl1 hrow1 hq1 hso1 hs1 hsk
                        go_upto_region 28 with (at_lookup; refine wpList_lookup_own_ok_int _ rfl _ _ TMap rfl TI TI .i64 lawI Tryz.underlying105 Tryz.underlying3 (zeroI _) B ns.length (idxD ns ns.length) rfl (HM.out _ Hhs1.out) _ _ rfl HKY.out ?_; intro cx hat hwc; rw [HF.out]; obtain rfl : cx = (k : Int) := look_eq (HA.out.symm.trans hat); clear hat hwc)
                        go_quiet (fail)
                        go_wp2
                        go_ret
                        exact ⟨ret_bool (by rw [HTB.out, HN.out]), HS1.out.trans (Hhs1.out.drewN _) (fun _ f _ => f)⟩
              · obtain rfl : j = x.kids.length := by omega
                rw [List.drop_length, kidsGo] at hk3
                have hb2 : tb = bfs ns g' row1 seen1 := by rw [Hhb.out, hk3]
                have hg2 : g' = seen1.count false + row1.length := by have := Hhg.out; omega
                obtain ⟨pg, po, pc, rfl, hpc, -⟩ := hq1.get
                rw [rowV_cons, List.length_cons, rowV_len] at *
                have hq2 : QO TI w1.heap.size wr (.slice (some ⟨pg, po, none⟩) ((rowV row1).length + 1) pc) (.int .i64 r :: rowV row1) := by rw [rowV_len]; exact hq1
                have hq3 := hq2.tail
                rw [rowV_len] at hq3
                by_cases hp1 : pc = 1
                · subst hp1
                  obtain rfl : row1 = [] := List.eq_nil_of_length_eq_zero (by omega)
                  rw [if_pos rfl] at hq3
                  have H5 : Hid (L2 ns S w1 tb g' (.slice (some ⟨pg, po, none⟩) 0 0) wr) := Lib.hid ⟨[], seen1, hb2, hg2, by omega, hsl1, hrow1, hq3, hso1, hs1⟩
                  have Hhk3 := Lib.hid hk3
                  have Hhcnt := Lib.hid hcnt
                  have Hhsl1 := Lib.hid hsl1
                  have Hhrow1 := Lib.hid hrow1
                  have Hhq1 := Lib.hid hq1
                  have Hhso1 := Lib.hid hso1
                  have Hhs1 := Lib.hid hs1
                  have Hhb2 := Lib.hid hb2
                  have Hhg2 := Lib.hid hg2
                  have Hhq2 := Lib.hid hq2
                  have Hhq3 := Lib.hid hq3
                  clear hk3 hcnt hsl1 hrow1 hq1 hso1 hs1 hb2 hg2 hq2 hq3
                  go_wp2
                  go_roundg g'
                  case measure => omega
                  case rel => exact H5.out
                · rw [if_neg hp1] at hq3
                  have H5 : Hid (L2 ns S w1 tb g' (.slice (some ⟨pg, po + 1, none⟩) row1.length (pc - 1)) wr) := Lib.hid ⟨row1, seen1, hb2, hg2, by omega, hsl1, hrow1, hq3, hso1, hs1⟩
                  have Hhk3 := Lib.hid hk3
                  have Hhcnt := Lib.hid hcnt
                  have Hhsl1 := Lib.hid hsl1
                  have Hhrow1 := Lib.hid hrow1
                  have Hhq1 := Lib.hid hq1
                  have Hhso1 := Lib.hid hso1
                  have Hhs1 := Lib.hid hs1
                  have Hhb2 := Lib.hid hb2
                  have Hhg2 := Lib.hid hg2
                  have Hhq2 := Lib.hid hq2
                  have Hhq3 := Lib.hid hq3
                  clear hk3 hcnt hsl1 hrow1 hq1 hso1 hs1 hb2 hg2 hq2 hq3
                  go_wp2
                  go_roundg g'
                  case measure => omega
                  case rel => exact H5.out
end Go.Proofs.YtkamhpbfebdhjaaGreatDoor.ParMay
