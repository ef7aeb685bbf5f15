/- A node by its id: the reference's way. -/
import Derived.Test.YtjeamfoicpgkhaaGreatDoorLumpB
import Derived.Test.YtjeamfoicpgkhaaGreatDoorLumpA
namespace Go.Proofs.YtjeamfoicpgkhaaGreatDoor.RefFind
open Go.RowKit Go.Lib Go.Proofs.YtjeamfoicpgkhaaGreatDoor.Mem Go.Proofs.YtjeamfoicpgkhaaGreatDoor.Read Go.Proofs.YtjeamfoicpgkhaaGreatDoor.Tree Go.Proofs.YtjeamfoicpgkhaaGreatDoor.Data Go.Proofs.YtjeamfoicpgkhaaGreatDoor.CompR Go.Proofs.YtjeamfoicpgkhaaGreatDoor.MsgR Go.Proofs.YtjeamfoicpgkhaaGreatDoor.May
set_option linter.unusedVariables false
set_option linter.unusedSimpArgs false
def posI (xs : List NodeD) (id : Int) : Int := match posOf xs id with | some k => (k : Int) | none => -1
theorem pos_none : ∀ {xs : List NodeD} {id : Int}, (∀ x ∈ xs, x.id ≠ id) → posOf xs id = none := by
  intro xs id h
  unfold posOf
  rw [List.findIdx?_eq_none_iff]
  intro x hx
  exact beq_eq_false_iff_ne.2 (h x hx)
theorem pos_first : ∀ {xs : List NodeD} {id : Int} {k : Nat} (hk : k < xs.length), xs[k].id = id → (∀ x ∈ xs.take k, x.id ≠ id) → posOf xs id = some k
  | [], _, _, hk, _, _ => absurd hk (Nat.not_lt_zero _)
  | x :: xs, id, 0, _, he, _ => by
    unfold posOf
    rw [List.findIdx?_cons, if_pos (beq_iff_eq.2 (by simpa using he))]
  | x :: xs, id, k + 1, hk, he, hn => by
    have hx : x.id ≠ id := hn x (by simp)
    have := pos_first (xs := xs) (id := id) (k := k) (by simpa using hk) (by simpa using he) (fun y hy => hn y (by simp [hy]))
    unfold posOf at this ⊢
    rw [List.findIdx?_cons, if_neg (fun e => hx (beq_iff_eq.1 e)), this]
    rfl
set_option maxHeartbeats 4000000 in
set_option maxRecDepth 100000 in
theorem Find_ref (w : World) (t : TreeD) (nv : Value) (id : Int) (h : NodesR w t.nodes nv) : Calls Tryz.prog 113 #[aggT t nv, .int .i64 id] w fun e w' => e = .returned (.int .i64 (posI t.nodes id)) ∧ Step No w w' := by
  obtain ⟨A, c, rfl, hc1, hc2⟩ := sl_len h
  unfold maxLen at hc2
  obtain ⟨rt, nx, ns⟩ := t
  simp only at h hc1
  have HA := Lib.hid h
  clear h
  unfold aggT
  simp only
  go_enter Tryz.func113, Tryz.ntmps113
  go_upto_region 1 with (fail)
  generalize hW : World.alloc w _ = w1 at *
  have HB := Lib.hid (show w1.heap[w.heap.size]? = some (.cells #[.int .i64 rt, .int .i64 nx, .slice A ns.length c] 26 (0, 0)) by rw [← hW]; exact blk_new w _)
  have HS1 : Hid (Step No w w1) := Lib.hid (by rw [← hW]; exact (Step.refl No w).alloc _)
  have e2 : w1.cell? ⟨w.heap.size, 2, none⟩ = some (.slice A ns.length c) := by rw [blk_cell HB.out]; rfl
  clear hW
  go_wp2
  go_loopw [5] (fun i wr => ∃ k : Nat, k ≤ ns.length ∧ i = .int .i64 k ∧ (∀ x ∈ ns.take k, x.id ≠ id) ∧ wr = w1) (fun i _ => ns.length - (RowKit.intOf i).toNat)
  case atStart => exact ⟨0, Nat.zero_le _, rfl, fun x hx => by simp at hx, rfl⟩
  case round =>
    obtain ⟨k, hk, rfl, hall, rfl⟩ := hrel
    have HAll := Lib.hid hall
    clear hall
    by_cases hlt : k < ns.length
    · obtain ⟨ad, kv, rfl, hkv, c0, c1, c2, c3, c4⟩ := nodes_cells (HA.out.to HS1.out) k hlt
      have hi0 : (0 : Int) ≤ k := by omega
      have hi1 : (k : Int) < ns.length := by omega
      have HP := Lib.hid (fun he => pos_first (id := id) hlt he HAll.out)
      have HTk := Lib.hid (List.take_succ_eq_append_getElem hlt)
      generalize ns[k] = x at *
      clear hkv c1 c2 c3 c4
      by_cases hx : x.id = id
      · have hq : (x.id == id) = true := beq_iff_eq.2 hx
        have HR : Hid (posI ns id = (k : Int)) := Lib.hid (by unfold posI; rw [HP.out hx])
        clear hx
        go_wp2
        go_ret
        exact ⟨by rw [HR.out]; rfl, HS1.out⟩
      · have hq : (x.id == id) = false := beq_eq_false_iff_ne.2 hx
        have HX := Lib.hid hx
        clear hx
        go_wp2
        go_roundw
        case rel => exact ⟨k + 1, hlt, by go_num, fun y hy => by
            rw [HTk.out] at hy
            rcases List.mem_append.1 hy with hy | hy
            · exact HAll.out y hy
            · simp at hy
              subst hy
              exact HX.out, by first | rfl | trivial⟩
        case measure => simp [RowKit.intOf]; omega
    · obtain rfl : k = ns.length := by omega
      have HR : Hid (posI ns id = -1) := Lib.hid (by unfold posI; rw [pos_none (fun x hx => HAll.out x (by rw [List.take_length]; exact hx))])
      go_wp2
      go_ret
      exact ⟨by rw [HR.out]; rfl, HS1.out⟩
end Go.Proofs.YtjeamfoicpgkhaaGreatDoor.RefFind
