/- The program's queue: each method gives what the row of frames gives. -/
import Derived.Test.YtmhnnkifkbamoaaNetQ
import Derived.Test.YtmhnnkifkbamoaaBytes
namespace Go.Proofs.Ytmhnnkifkbamoaa.NetQ
open Go.RowKit Go.Proofs.Ytmhnnkifkbamoaa.Mem Go.Proofs.Ytmhnnkifkbamoaa.Bytes
set_option linter.unusedVariables false
set_option linter.unusedSimpArgs false

abbrev inR (xs : List Fr) (i : Int) : Prop := 0 ≤ i ∧ i < xs.length
def putS (xs : List Fr) (x : Fr) : List Fr := if fits xs x.1 then xs ++ [x] else xs
def takeS (xs : List Fr) (i : Int) : ByteArray × Int × List Fr := if h : inR xs i then ((xs[i.toNat]'(by omega)).1, 0, xs.eraseIdx i.toNat) else (⟨#[]⟩, 2201, xs)
def copyS (xs : List Fr) (i : Int) : Bool × Int × List Fr := if h : inR xs i then (fits xs (xs[i.toNat]'(by omega)).1, 0, putS xs (xs[i.toNat]'(by omega))) else (false, 2201, xs)
def turn (s : ByteArray) (k : Nat) (b : Int) : ByteArray := ⟨(s.data.toList.set k ((s.data.toList.getD k 0) ^^^ UInt8.ofNat b.toNat)).toArray⟩
def breakS (xs : List Fr) (i k b : Int) : Int × List Fr :=
  if h : inR xs i then
    (if (xs[i.toNat]'(by omega)).2 = true ∨ k < 0 ∨ (xs[i.toNat]'(by omega)).1.size ≤ k ∨ b < 1 ∨ 255 < b then (2200, xs)
     else (0, xs.set i.toNat (turn (xs[i.toNat]'(by omega)).1 k.toNat b, true)))
  else (2201, xs)
/-- What a method leaves: its answer, the frames. -/
def QPost (T E : TypeId) (ok : Nat → Prop) (w : World) (Q : Nat) (v : Value) (xs : List Fr) (e : Ending) (w' : World) : Prop :=
  e = .returned v ∧ QRep T E (fun k => ok k ∨ w.heap.size ≤ k) w' Q xs ∧ Step ok w w'
theorem QPost.ofPut {T E : TypeId} {ok : Nat → Prop} {w : World} {Q : Nat} {xs : List Fr} {s : ByteArray} {b : Bool} {e : Ending} {w' : World} (h : PutPost T E ok w Q xs s b e w') : QPost T E ok w Q (.bool (fits xs s)) (putS xs (s, b)) e w' := h
theorem QPost.same {T E : TypeId} {ok : Nat → Prop} {w w' : World} {Q : Nat} {xs : List Fr} {v : Value} (h : QRep T E ok w Q xs) (hs : Step No w w') : QPost T E ok w Q v xs (.returned v) w' :=
  ⟨rfl, (h.step hs (fun _ _ _ f => f)).mono (fun _ _ o => .inl o), hs.none⟩
theorem new_any (w : World) : Calls Try.prog 18 #[] w fun e w' => e = .returned (.pointer (some ⟨w.heap.size, 0, none⟩)) ∧ w' = w.alloc (.cells #[.slice none 0 0] 83) := by
  go_enter Try.func18, Try.ntmps18
  go_wp2
  go_ret
  exact ⟨rfl, rfl⟩
theorem QRep.new {T E : TypeId} (w : World) : QRep T E (fun k => w.heap.size ≤ k) (w.alloc (.cells #[.slice none 0 0] T)) w.heap.size [] :=
  ⟨.slice none 0 0, blk_new w _, Nat.le_refl _, World.ownsRow_nil _ _ _ _, fun k hk => by simp [Value.ownBlock] at hk⟩
theorem there_any (w : World) (ok : Nat → Prop) (Q : Nat) (xs : List Fr) (i : Int) (h : QRep 83 86 ok w Q xs) :
    Calls Try.prog 45 #[.pointer (some ⟨Q, 0, none⟩), .int .i64 i] w fun e w' => e = .returned (.bool (decide (inR xs i))) ∧ w = w' := by
  obtain ⟨v, hQ, hok, hrow, hv⟩ := h
  obtain ⟨A, c, rfl, hnc, hcm⟩ := row_slice hrow
  have hc0 : w.cell? ⟨Q, 0, none⟩ = some (.slice A xs.length c) := by rw [blk_cell hQ]; rfl
  clear hQ hrow hv
  by_cases h0 : 0 ≤ i
  · by_cases h1 : i < xs.length
    · have hd : decide (inR xs i) = true := decide_eq_true ⟨h0, h1⟩
      rw [hd]
      clear hd
      go_enter Try.func45, Try.ntmps45
      go_wp2
      go_ret
      exact ⟨rfl, rfl⟩
    · have hd : decide (inR xs i) = false := decide_eq_false (fun h => h1 h.2)
      rw [hd]
      clear hd
      go_enter Try.func45, Try.ntmps45
      go_wp2
      go_ret
      exact ⟨rfl, rfl⟩
  · have hd : decide (inR xs i) = false := decide_eq_false (fun h => h0 h.1)
    rw [hd]
    clear hd
    go_enter Try.func45, Try.ntmps45
    go_wp2
    go_ret
    exact ⟨rfl, rfl⟩
theorem put_nil (w : World) (s : ByteArray) : Calls Try.prog 19 #[.pointer none, .string s] w fun e w' => e = .returned (.bool false) ∧ w = w' := by
  go_enter Try.func19, Try.ntmps19
  go_wp2
  go_ret
  exact ⟨rfl, rfl⟩
theorem put_q (ok : Nat → Prop) (w : World) (Q : Nat) (xs : List Fr) (s : ByteArray) (b : Bool) (h : QRep 83 86 ok w Q xs) :
    Calls Try.prog 43 #[.pointer (some ⟨Q, 0, none⟩), .agg #[.string s, .bool b]] w (QPost 83 86 ok w Q (.bool (fits xs s)) (putS xs (s, b))) := put_any ok w Q xs s b h
theorem Put_any (ok : Nat → Prop) (w : World) (Q : Nat) (xs : List Fr) (s : ByteArray) (h : QRep 83 86 ok w Q xs) :
    Calls Try.prog 19 #[.pointer (some ⟨Q, 0, none⟩), .string s] w (QPost 83 86 ok w Q (.bool (fits xs s)) (putS xs (s, false))) := by
  have Hh := Lib.hid h
  clear h
  go_enter Try.func19, Try.ntmps19
  go_wp2_with fail
  refine (put_q ok _ Q xs s false Hh.out).mono ?_
  rintro e w' ⟨rfl, h2⟩
  have Hh2 := Lib.hid h2
  clear h2
  go_wp2
  go_ret
  exact ⟨rfl, Hh2.out⟩
/-- A frame of the row, where it lies. -/
theorem row_cell {w : World} {E : TypeId} {g n c : Nat} {xs : List Fr} (hrow : w.ownsRow 0 E 2 (.slice (some ⟨g, 0, none⟩) n c) n (frs xs)) (j : Nat) (hj : j < xs.length) (hn : xs.length = n) :
    w.cell? ⟨g, j * 2, none⟩ = some (.string xs[j].1) ∧ w.cell? ⟨g, j * 2 + 1, none⟩ = some (.bool xs[j].2) ∧ w.frozen? ⟨g, j * 2, none⟩ = false ∧ w.frozen? ⟨g, j * 2 + 1, none⟩ = false := by
  obtain ⟨h1, h2⟩ := frs_getElem xs j hj
  exact ⟨by rw [hrow.cellAt _ (by omega), h1], by rw [hrow.cellAt _ (by omega), h2], hrow.frozenAt _, hrow.frozenAt _⟩
theorem take_close {T E : TypeId} (hTE : E ≠ T) {ok : Nat → Prop} {w w1 : World} {Q g j : Nat} {xs : List Fr} {v : Value} {r : Value} (hQ : w.heap[Q]? = some (.cells #[v] T (0, 0))) (hok : ok Q) (hrow : w.ownsRow 0 E 2 v xs.length (frs xs)) (hv : v.ownBlock = some g) (hg : ok g) (hj : j < xs.length)
    {v1 : Value} (h1 : w1.ownsRow 0 E 2 v1 (xs.length - 1) (frs (xs.eraseIdx j))) (hv1 : v1.ownBlock = some g) (hs : Step (· = g) w w1) :
    QPost T E ok w Q r (xs.eraseIdx j) (.returned r) (w1.setCell ⟨Q, 0, none⟩ v1) := by
  have hne : g ≠ Q := fun e => row_ne hrow hQ hTE (by rw [hv, e])
  have hq1 := hs.blk hQ (fun e => hne e.symm)
  refine ⟨rfl, ⟨v1, blk_set hq1 0 v1, .inl hok, ?_, ?_⟩, (hs.mono (fun i _ e => e ▸ hg)).setCell (fun _ => hok) _⟩
  · rw [List.length_eraseIdx, if_pos hj]
    exact row_move h1 (fun k hk => Below.heap_setCell _ _ _ _ (fun e => hne (by rw [hv1] at hk; injection hk with hk; rw [hk, e])))
  · intro k hk
    rw [hv1] at hk
    injection hk with hk
    exact .inl (hk ▸ hg)
theorem Take_nil (w : World) (i : Int) : Calls Try.prog 21 #[.pointer none, .int .i64 i] w fun e w' => e = .returned (.tuple #[.string ⟨#[]⟩, .int .i64 1]) ∧ w = w' := by
  go_enter Try.func21, Try.ntmps21
  go_wp2
  go_ret2
  exact ⟨rfl, rfl⟩
set_option maxHeartbeats 400000 in
theorem Take_any (ok : Nat → Prop) (w : World) (Q : Nat) (xs : List Fr) (i : Int) (h8 : xs.length ≤ 8) (h : QRep 83 86 ok w Q xs) :
    Calls Try.prog 21 #[.pointer (some ⟨Q, 0, none⟩), .int .i64 i] w (QPost 83 86 ok w Q (.tuple #[.string (takeS xs i).1, .int .i64 (takeS xs i).2.1]) (takeS xs i).2.2) := by
  have HH := Lib.hid h
  by_cases hr : inR xs i
  · obtain ⟨j, rfl⟩ := Int.eq_ofNat_of_zero_le hr.1
    have hj : j < xs.length := by have := hr.2; omega
    have e : takeS xs (j : Int) = (xs[j].1, 0, xs.eraseIdx j) := by unfold takeS; rw [dif_pos hr]; rfl
    rw [e]
    clear e
    obtain ⟨v, hQ, hok, hrow, hv⟩ := h
    obtain ⟨g, c, rfl, hnc, hcm⟩ := row_form hrow (by omega)
    unfold maxLen at hcm
    have hc0 : w.cell? ⟨Q, 0, none⟩ = some (.slice (some ⟨g, 0, none⟩) xs.length c) := by rw [blk_cell hQ]; rfl
    obtain ⟨c1, -, -, -⟩ := row_cell hrow j hj rfl
    have HD : Hid (decide (inR xs (j : Int)) = true) := Lib.hid (decide_eq_true hr)
    have HS := Lib.hid (delete_any w g xs.length c j xs hj rfl h8 hrow)
    generalize xs[j].1 = s at *
    have HhQ := Lib.hid hQ
    have Hhok := Lib.hid hok
    have Hhrow := Lib.hid hrow
    have Hhv := Lib.hid hv
    have Hhr := Lib.hid hr
    clear hQ hok hrow hv hr
    go_enter Try.func21, Try.ntmps21
    go_wp2_with fail
    refine (there_any _ ok Q xs _ HH.out).mono ?_
    rintro e w' ⟨rfl, rfl⟩
    rw [HD.out]
    go_wp2_with fail
    refine (show Calls Try.prog _ #[_, _, .int .i64 ((j : Int) + 1)] _ _ from HS.out).mono ?_
    rintro e w1 ⟨rfl, h1, h2⟩
    have hf := row_ne Hhrow.out HhQ.out (by decide)
    have hq1 : w1.heap[Q]? = _ := h2.blk HhQ.out (fun e => hf (by rw [e]; rfl))
    have hc1 := blk_cell hq1 0
    have hf1 := blk_free hq1 0
    have Hh1 := Lib.hid h1
    have Hh2 := Lib.hid h2
    have Hhf := Lib.hid hf
    have Hhq1 := Lib.hid hq1
    clear h1 h2 hf hq1
    go_wp2
    go_ret2
    exact take_close (by decide) HhQ.out Hhok.out Hhrow.out rfl (Hhv.out _ rfl) hj Hh1.out rfl Hh2.out
  · have e : takeS xs i = (⟨#[]⟩, 2201, xs) := by unfold takeS; rw [dif_neg hr]
    rw [e]
    clear e
    have HD : Hid (decide (inR xs i) = false) := Lib.hid (decide_eq_false hr)
    clear h hr
    go_enter Try.func21, Try.ntmps21
    go_wp2_with fail
    refine (there_any _ ok Q xs _ HH.out).mono ?_
    rintro e w' ⟨rfl, rfl⟩
    rw [HD.out]
    go_wp2
    go_ret2
    exact QPost.same HH.out (by repeat' (first | exact Step.refl _ _ | with_reducible assumption | refine Step.drew ?_ | refine Step.drewN ?_ _ | refine Step.alloc ?_ _))
theorem Copy_nil (w : World) (i : Int) : Calls Try.prog 24 #[.pointer none, .int .i64 i] w fun e w' => e = .returned (.tuple #[.bool false, .int .i64 1]) ∧ w = w' := by
  go_enter Try.func24, Try.ntmps24
  go_wp2
  go_ret2
  exact ⟨rfl, rfl⟩
set_option maxHeartbeats 400000 in
theorem Copy_any (ok : Nat → Prop) (w : World) (Q : Nat) (xs : List Fr) (i : Int) (h : QRep 83 86 ok w Q xs) :
    Calls Try.prog 24 #[.pointer (some ⟨Q, 0, none⟩), .int .i64 i] w (QPost 83 86 ok w Q (.tuple #[.bool (copyS xs i).1, .int .i64 (copyS xs i).2.1]) (copyS xs i).2.2) := by
  have HH := Lib.hid h
  by_cases hr : inR xs i
  · obtain ⟨j, rfl⟩ := Int.eq_ofNat_of_zero_le hr.1
    have hj : j < xs.length := by have := hr.2; omega
    have e : copyS xs (j : Int) = (fits xs xs[j].1, 0, putS xs xs[j]) := by unfold copyS; rw [dif_pos hr]; rfl
    rw [e]
    clear e
    obtain ⟨v, hQ, hok, hrow, hv⟩ := h
    obtain ⟨g, c, rfl, hnc, hcm⟩ := row_form hrow (by omega)
    unfold maxLen at hcm
    have hc0 : w.cell? ⟨Q, 0, none⟩ = some (.slice (some ⟨g, 0, none⟩) xs.length c) := by rw [blk_cell hQ]; rfl
    obtain ⟨c1, c2, -, -⟩ := row_cell hrow j hj rfl
    have HD : Hid (decide (inR xs (j : Int)) = true) := Lib.hid (decide_eq_true hr)
    generalize xs[j] = x at *
    obtain ⟨s, b⟩ := x
    have Hhr := Lib.hid hr
    clear hr
    clear hQ hok hrow hv
    go_enter Try.func24, Try.ntmps24
    go_wp2_with fail
    refine (there_any _ ok Q xs _ HH.out).mono ?_
    rintro e w' ⟨rfl, rfl⟩
    rw [HD.out]
    go_wp2_with fail
    refine (put_q ok _ Q xs s b HH.out).mono ?_
    rintro e w1 ⟨rfl, h2⟩
    have Hh2 := Lib.hid h2
    clear h2
    go_wp2
    go_ret2
    exact ⟨rfl, Hh2.out⟩
  · have e : copyS xs i = (false, 2201, xs) := by unfold copyS; rw [dif_neg hr]
    rw [e]
    clear e
    have HD : Hid (decide (inR xs i) = false) := Lib.hid (decide_eq_false hr)
    clear h hr
    go_enter Try.func24, Try.ntmps24
    go_wp2_with fail
    refine (there_any _ ok Q xs _ HH.out).mono ?_
    rintro e w' ⟨rfl, rfl⟩
    rw [HD.out]
    go_wp2
    go_ret2
    exact QPost.same HH.out (by repeat' (first | exact Step.refl _ _ | with_reducible assumption | refine Step.drew ?_ | refine Step.drewN ?_ _ | refine Step.alloc ?_ _))
theorem All_nil (w : World) : Calls Try.prog 29 #[.pointer none] w fun e w' => e = .returned (.slice none 0 0) ∧ w = w' := by
  go_enter Try.func29, Try.ntmps29
  go_wp2
  go_ret
  exact ⟨rfl, rfl⟩
/-- What All leaves: new memory that reads as the texts. -/
def AllPost (E : TypeId) (w : World) (ss : List ByteArray) (e : Ending) (w' : World) : Prop :=
  ∃ v, e = .returned v ∧ w'.ownsRow 0 E 1 v ss.length (ss.map Value.string) ∧ Step No w w' ∧ ∀ k, v.ownBlock = some k → w.heap.size ≤ k
/-- After k rounds. -/
def AllRel (E : TypeId) (w : World) (xs : List Fr) (v i : Value) (wr : World) : Prop :=
  ∃ k : Nat, k ≤ xs.length ∧ i = .int .i64 k ∧ wr.ownsRow 0 E 1 v k ((xs.take k).map fun x => Value.string x.1) ∧ Step No w wr ∧ ∀ b, v.ownBlock = some b → w.heap.size ≤ b
theorem infoS : (Try.prog.info? 9).map (fun i => (i.zero, i.size, i.bytes)) = some (some (.string ⟨#[]⟩), 1, 16) := by kernel_rfl
theorem all_next {E : TypeId} {w wr w0 w1 : World} {xs : List Fr} {v v1 : Value} {k : Nat} (hk : k < xs.length) (hs : Step No w wr) (hb : ∀ b, v.ownBlock = some b → w.heap.size ≤ b) (h0 : Step No wr w0)
    (hown : w1.ownsRow 0 E 1 v1 (k + 1) (((xs.take k).map fun x => Value.string x.1) ++ [.string xs[k].1])) (hg : w0.grownBy w1 v.ownBlock) (hat : v1.ownBlock = v.ownBlock ∨ v1.ownBlock = some w0.heap.size) : AllRel E w xs v1 (.int .i64 ((k + 1 : Nat) : Int)) w1 := by
  have hs0 := hs.trans h0 (fun _ f _ => f)
  refine ⟨k + 1, hk, rfl, ?_, hs0.grown hg (fun b hb' hlt => by have := hb b hb'; omega), fun b hb' => ?_⟩
  · rw [List.take_succ_eq_append_getElem hk, List.map_append]; exact hown
  · rcases hat with hat | hat
    · exact hb b (by rw [← hat, hb'])
    · rw [hb'] at hat; injection hat with hat; rw [hat]; exact hs0.size
set_option maxHeartbeats 1000000 in
theorem All_any (ok : Nat → Prop) (w : World) (Q : Nat) (xs : List Fr) (h8 : xs.length ≤ 8) (h : QRep 83 86 ok w Q xs) :
    Calls Try.prog 29 #[.pointer (some ⟨Q, 0, none⟩)] w (AllPost 9 w (xs.map (·.1))) := by
  obtain ⟨v, hQ, hok, hrow, hv⟩ := h
  obtain ⟨A, c, rfl, hnc, hcm⟩ := row_slice hrow
  unfold maxLen at hcm
  have hc0 : w.cell? ⟨Q, 0, none⟩ = some (.slice A xs.length c) := by rw [blk_cell hQ]; rfl
  have HR := Lib.hid hrow
  clear hQ hok hv hrow
  go_enter Try.func29, Try.ntmps29
  go_wp2
  go_loopw [3, 13] (fun v i wr => AllRel 9 w xs v i wr) (fun _ i _ => xs.length - (intOf i).toNat)
  case atStart => exact ⟨0, Nat.zero_le _, rfl, World.ownsRow_nil _ _ _ _, Step.refl _ _, fun b hb => by simp [Value.ownBlock] at hb⟩
  case round =>
    obtain ⟨k, hk, rfl, hown, hs, hb⟩ := hrel
    by_cases hlt : k < xs.length
    · obtain ⟨g, c', he, -, -⟩ := row_form HR.out (by omega)
      injection he with he1 he2 he3
      subst he1
      have hlt' : (k : Int) < xs.length := by omega
      have hr2 := row_step HR.out hs (fun _ _ f => f)
      obtain ⟨c1, c2, -, -⟩ := row_cell hr2 k hlt rfl
      have HO := Lib.hid hown
      have HS := Lib.hid hs
      have HB := Lib.hid hb
      generalize hx : xs[k] = x at *
      obtain ⟨s, b⟩ := x
      have HX := Lib.hid hx
      clear hown hs hb hr2 hx he2 he3
      obtain ⟨Av, cv, rfl, -, -⟩ := row_slice HO.out
      go_wp2_with (at_builtin; (refine list_append_own _ rfl (.tmp 17) (.tmp 20) 51 9 (.string ⟨#[]⟩) 1 16 rfl Try.underlying51 infoS rfl (by decide) (.slice Av k cv) k _ rfl (by exact (HO.out.alloc _).alloc _) ⟨wr.heap.size + 1, 0, none⟩ 1 1 [.string s] rfl rfl (by simpa using cells_new (wr.alloc (.cells #[.string s, .bool b] 86)) #[.string s] 9) (by simp [Value.oneCell']) (by simp only [maxLen]; omega) (by omega) ?_); intro v1 w1 hown hg hat; have H1 := Lib.hid hown; have H2 := Lib.hid hg; have H3 := Lib.hid hat; clear hown hg hat)
      go_roundw
      case rel => exact all_next hlt HS.out HB.out (by repeat' (first | exact Step.refl _ _ | with_reducible assumption | refine Step.drew ?_ | refine Step.drewN ?_ _ | refine Step.alloc ?_ _)) (by rw [HX.out]; exact H1.out) H2.out H3.out
      case measure => simp [intOf]; omega
    · have hke : k = xs.length := by omega
      subst hke
      go_wp2
      go_ret
      refine ⟨_, rfl, ?_, hs, hb⟩
      rw [List.take_length] at hown
      rw [List.length_map, List.map_map]
      exact hown
end Go.Proofs.Ytmhnnkifkbamoaa.NetQ
