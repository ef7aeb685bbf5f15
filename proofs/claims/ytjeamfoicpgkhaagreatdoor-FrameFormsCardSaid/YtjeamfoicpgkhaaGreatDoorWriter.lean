/- A writer of packed texts: numbers and texts. -/
import Derived.Test.YtjeamfoicpgkhaaGreatDoorBuild2
import Derived.Test.YtjeamfoicpgkhaaGreatDoorLumpB
import Derived.Test.YtjeamfoicpgkhaaGreatDoorLumpA
namespace Go.Proofs.YtjeamfoicpgkhaaGreatDoor.Writer
open Go.RowKit Go.Lib Go.Proofs.YtjeamfoicpgkhaaGreatDoor.Mem Go.Proofs.YtjeamfoicpgkhaaGreatDoor.Build Go.Proofs.YtjeamfoicpgkhaaGreatDoor.Env Go.Proofs.YtjeamfoicpgkhaaGreatDoor.Take Go.Proofs.YtjeamfoicpgkhaaGreatDoor.Read
set_option linter.unusedVariables false
set_option linter.unusedSimpArgs false
def EnvS (ok : Nat → Prop) (w : World) : Prop := ∀ w', Step ok w w' → Env w'
def Rng (x : Int) : Prop := -9223372036854775808 ≤ x ∧ x ≤ 9223372036854775807
theorem Itoa_any (n : Int) (hn : Rng n) (w : World) (hE : Env w) : Calls Tryz.prog 85 #[.int .i64 n] w fun e w' => e = .returned (.string ⟨(itoa n).toArray⟩) ∧ Step No w w' := by
  refine (Tryz.strconv_Itoa n hn.1 hn.2 w hE.1).mono ?_
  rintro e w' ⟨rfl, k, os, rfl⟩
  exact ⟨rfl, grow_step k os⟩
/-- A writer that has been written since w. -/
def WS (ok : Nat → Prop) (w wr : World) (b : Nat) (l : List UInt8) : Prop := WRep (fun k => ok k ∨ w.heap.size ≤ k) wr b l ∧ Step ok w wr
theorem WS.start {ok : Nat → Prop} {w : World} {b : Nat} {l : List UInt8} (h : WRep ok w b l) : WS ok w w b l := ⟨h.mono (fun _ _ => .inl), Step.refl _ _⟩
theorem WS.same {ok : Nat → Prop} {w wr w' : World} {b : Nat} {l : List UInt8} (h : WS ok w wr b l) (hs : Step No wr w') : WS ok w w' b l :=
  ⟨h.1.step hs (fun _ _ _ f => f), h.2.trans hs (fun _ f _ => f.elim)⟩
theorem WS.write {ok : Nat → Prop} {w wr w' : World} {b : Nat} {l l' : List UInt8} {r : Value} {e : Ending} (h : WS ok w wr b l) (hp : WPost (fun k => ok k ∨ w.heap.size ≤ k) wr b r l' e w') : e = .returned r ∧ WS ok w w' b l' :=
  ⟨hp.1, hp.2.1.mono (fun k _ o => o.elim id (fun o => .inr (Nat.le_trans h.2.size o))), h.2.trans hp.2.2 (fun i o hlt => o.elim id (fun o => absurd hlt (Nat.not_lt.2 o)))⟩
theorem WS.post {ok : Nat → Prop} {w w' : World} {b : Nat} {l : List UInt8} {r : Value} (h : WS ok w w' b l) : WPost ok w b r l (.returned r) w' := ⟨rfl, h.1, h.2⟩
theorem itoa_le {n : Int} (h : Rng n) : (itoa n).length ≤ 21 := itoa_length_le n h.1 h.2
theorem ints_cell {w : World} {xs : List Int} {A : Option Addr} {n c : Nat} (h : SlR 1 intR w xs (.slice A n c)) (k : Nat) (hk : k < xs.length) : ∃ ad, A = some ad ∧ w.cell? (ad.add k) = some (.int .i64 xs[k]) := by
  obtain ⟨A', c', he, _, _, h3⟩ := h
  injection he with he1 _ _
  subst he1
  obtain ⟨ad, cs, e, _, rfl, hc⟩ := h3 k hk
  exact ⟨ad, e, by simpa using hc 0 _ rfl⟩
theorem nums_snoc (xs : List Int) (k : Nat) (h : k < xs.length) : nums (xs.take (k + 1)) = nums (xs.take k) ++ num xs[k] := by
  unfold nums
  rw [List.take_succ_eq_append_getElem h, List.flatMap_append, List.flatMap_cons, List.flatMap_nil, List.append_nil]
theorem nums_len (xs : List Int) (h : ∀ x ∈ xs, Rng x) : (nums xs).length ≤ 22 * xs.length := by
  induction xs with
  | nil => simp [nums]
  | cons x xs ih =>
    have h1 := itoa_le (h x (by simp))
    have h2 := ih (fun y hy => h y (by simp [hy]))
    simp only [nums, List.flatMap_cons, List.length_append, List.length_cons, num, List.length_nil] at h2 ⊢
    omega
set_option maxHeartbeats 4000000 in
set_option maxRecDepth 100000 in
theorem Num_any (ok : Nat → Prop) (w : World) (b : Nat) (l : List UInt8) (xs : List Int) (A : Option Addr) (c : Nat) (h : WRep ok w b l) (hE : EnvS ok w) (hx : ∀ w', Step ok w w' → SlR 1 intR w' xs (.slice A xs.length c)) (hr : ∀ x ∈ xs, Rng x)
    (hl : l.length + 22 * xs.length ≤ 140737488355328) :
    Calls Tryz.prog 35 #[.pointer (some ⟨b, 0, none⟩), .slice A xs.length c] w (WPost ok w b (.tuple #[]) (l ++ nums xs)) := by
  have HW := Lib.hid (WS.start h)
  have Hh := Lib.hid h
  have HhE := Lib.hid hE
  have Hhx := Lib.hid hx
  have Hhr := Lib.hid hr
  clear h hE hx hr
  go_enter Tryz.func35, Tryz.ntmps35
  go_wp2
  go_loopw [8] (fun i wr => ∃ k : Nat, k ≤ xs.length ∧ i = .int .i64 k ∧ WS ok w wr b (l ++ nums (xs.take k))) (fun i _ => xs.length - (RowKit.intOf i).toNat)
  case atStart => exact ⟨0, Nat.zero_le _, rfl, by simpa [nums] using HW.out⟩
  case round =>
    obtain ⟨k, hk, rfl, hw⟩ := hrel
    by_cases hlt : k < xs.length
    · obtain ⟨ad, rfl, c0⟩ := ints_cell (Hhx.out wr hw.2) k hlt
      have hi0 : (0 : Int) ≤ k := by omega
      have hi1 : (k : Int) < xs.length := by omega
      have HR : Hid (Rng xs[k]) := Lib.hid (Hhr.out _ (List.getElem_mem hlt))
      have HN : Hid (l ++ nums (xs.take (k + 1)) = (l ++ nums (xs.take k)) ++ (itoa xs[k] ++ [44])) := Lib.hid (by rw [nums_snoc xs k hlt, List.append_assoc]; rfl)
      have HL : Hid ((l ++ nums (xs.take k)).length + 22 ≤ 140737488355328) := Lib.hid (by
        have := nums_len (xs.take k) (fun x hx => Hhr.out x (List.mem_of_mem_take hx))
        rw [List.length_take] at this
        rw [List.length_append]
        omega)
      generalize xs[k] = x at *
      generalize l ++ nums (xs.take k) = m at *
      have Hhw := Lib.hid hw
      clear hw
      go_upto_region 3 with (fail)
      have HWd := Lib.hid (Hhw.out.same ((Step.refl No _).drew))
      go_region_held3 (fun w' => True) (first | trivial) (first | (go_at_call 85; refine (Itoa_any x HR.out _ (HhE.out _ HWd.out.2)).mono ?_; rintro e w2 ⟨rfl, hs⟩; have HW2 := Lib.hid (HWd.out.same hs); clear hs) | (go_at_call 84; refine (WriteString_any _ _ b m ⟨(itoa x).toArray⟩ HW2.out.1 (by have := itoa_le HR.out; have := HL.out; rw [show (⟨(itoa x).toArray⟩ : ByteArray).size = (itoa x).length from by show (itoa x).toArray.size = _; simp]; omega)).mono ?_; rintro e w3 hp; obtain ⟨rfl, hw3⟩ := HW2.out.write hp; have HW3 := Lib.hid hw3; clear hp hw3))
      all_goals
        go_wp2_with fail
        refine (WriteByte_any _ _ b _ 44 HW3.out.1 (by have := itoa_le HR.out; have := HL.out; rw [List.length_append]; omega)).mono ?_
        rintro e w4 hp
        obtain ⟨rfl, hw4⟩ := HW3.out.write hp
        have HW4 := Lib.hid hw4
        clear hp hw4
        go_wp2
        go_roundw
        case rel => exact ⟨k + 1, hlt, rfl, by rw [HN.out, ← List.append_assoc]; exact HW4.out⟩
        case measure => simp [RowKit.intOf]; omega
    · obtain rfl : k = xs.length := by omega
      rw [List.take_length] at hw
      have Hhw := Lib.hid hw
      clear hw
      go_wp2
      go_end0
      exact Hhw.out.post
set_option maxHeartbeats 4000000 in
set_option maxRecDepth 100000 in
theorem Str_any (ok : Nat → Prop) (w : World) (b : Nat) (l : List UInt8) (s : ByteArray) (h : WRep ok w b l) (hE : EnvS ok w) (hl : l.length + s.size + 22 ≤ 140737488355328) :
    Calls Tryz.prog 38 #[.pointer (some ⟨b, 0, none⟩), .string s] w (WPost ok w b (.tuple #[]) (l ++ str s.data.toList)) := by
  have Hhw := Lib.hid (WS.start h)
  have HhE := Lib.hid hE
  have hs1 : s.data.toList.length = s.size := Array.length_toList
  have HN : Hid (l ++ str s.data.toList = ((l ++ itoa s.size) ++ [58]) ++ s.data.toList) := Lib.hid (by simp [str, hs1])
  have HR : Hid (Rng (s.size : Int)) := Lib.hid ⟨by omega, by omega⟩
  have HL : Hid (l.length + 22 ≤ 140737488355328) := Lib.hid (by omega)
  have HL2 : Hid (((l ++ itoa s.size) ++ [58]).length + s.size ≤ 140737488355328) := Lib.hid (by
    have := itoa_le HR.out
    rw [List.length_append, List.length_append, List.length_singleton]
    omega)
  clear h hE hl hs1
  rw [HN.out]
  clear HN
  obtain ⟨x, hx⟩ : ∃ x : Int, (s.size : Int) = x := ⟨_, rfl⟩
  rw [hx] at HR HL2 ⊢
  go_enter Tryz.func38, Tryz.ntmps38
  go_upto_region 0 with (fail)
  have HWd := Lib.hid (Hhw.out.same ((Step.refl No _).drew))
  go_region_held3 (fun w' => True) (first | trivial) (first | (go_at_call 85; refine (Itoa_any x HR.out _ (HhE.out _ HWd.out.2)).mono ?_; rintro e w2 ⟨rfl, hs⟩; have HW2 := Lib.hid (HWd.out.same hs); clear hs) | (go_at_call 84; refine (WriteString_any _ _ b l ⟨(itoa x).toArray⟩ HW2.out.1 (by have := itoa_le HR.out; have := HL.out; rw [show (⟨(itoa x).toArray⟩ : ByteArray).size = (itoa x).length from by show (itoa x).toArray.size = _; simp]; omega)).mono ?_; rintro e w3 hp; obtain ⟨rfl, hw3⟩ := HW2.out.write hp; have HW3 := Lib.hid hw3; clear hp hw3))
  all_goals
    go_wp2_with fail
    refine (WriteByte_any _ _ b _ 58 HW3.out.1 (by have := itoa_le HR.out; have := HL.out; rw [List.length_append]; omega)).mono ?_
    rintro e w4 hp
    obtain ⟨rfl, hw4⟩ := HW3.out.write hp
    have HW4 := Lib.hid hw4
    clear hp hw4
    go_wp2_with fail
    refine (WriteString_any _ _ b _ s HW4.out.1 HL2.out).mono ?_
    rintro e w5 hp
    obtain ⟨rfl, hw5⟩ := HW4.out.write hp
    have HW5 := Lib.hid hw5
    clear hp hw5
    go_wp2
    go_end0
    exact HW5.out.post
end Go.Proofs.YtjeamfoicpgkhaaGreatDoor.Writer
