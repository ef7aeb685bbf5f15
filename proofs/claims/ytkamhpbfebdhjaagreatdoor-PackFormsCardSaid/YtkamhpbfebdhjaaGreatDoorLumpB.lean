/- Several of my texts in one file: Env, Open, CompR, MsgR, Cut. -/
import Derived.Test.YtkamhpbfebdhjaaGreatDoorLumpM
import Derived.Test.YtkamhpbfebdhjaaGreatDoorProg
import Derived.Test.YtkamhpbfebdhjaaGreatDoorShelf
import Derived.Lib.AppendIntMem
import Derived.Test.YtkamhpbfebdhjaaGreatDoorChecked
import Derived.Test.YtkamhpbfebdhjaaGreatDoorLumpA
/- The library's package variables that the code reads, as the rows lay them. -/
namespace Go.Proofs.YtkamhpbfebdhjaaGreatDoor.Env
open Go.RowKit Go.Lib Go.Proofs.YtkamhpbfebdhjaaGreatDoor.Mem
set_option linter.unusedVariables false
theorem var_step {P : Program} {w w' : World} {n : String} {cs : Array Value} (h : Step No w w') (hv : w.var? P n = some cs) : w'.var? P n = some cs := by
  unfold World.var? at hv ⊢
  cases hg : P.globalNamed n with
  | none => rw [hg] at hv; simp at hv
  | some g =>
    rw [hg] at hv
    simp only [Option.bind_some] at hv ⊢
    cases hb : w.heap[g]? with
    | none => rw [hb] at hv; simp at hv
    | some o =>
      rw [h.blk hb (fun f => f)]
      rw [hb] at hv
      exact hv
def Env (w : World) : Prop :=
  TabIs Tryz.prog w "internal/strconv.uint64pow10" .u64 pow10Tab ∧ (∃ tp p, w.var? Tryz.prog "strconv.ErrSyntax" = some #[.iface tp p]) ∧ ∃ tp p, w.var? Tryz.prog "strconv.ErrRange" = some #[.iface tp p]
theorem Env.step {w w' : World} (h : Env w) (hs : Step No w w') : Env w' := by
  obtain ⟨h1, ⟨a, b, h2⟩, c, d, h3⟩ := h
  exact ⟨var_step hs h1, ⟨a, b, var_step hs h2⟩, c, d, var_step hs h3⟩
theorem grow_step {w : World} (k : Nat) (os : Array Obj) : Step No w (Go.Sort.grow (w.drewN k) os) := Step.ofBelow (Lib.below_grow _ w (Nat.le_refl _) k os)
end Go.Proofs.YtkamhpbfebdhjaaGreatDoor.Env

/- Arguments that lie in memory: what they read as. -/
namespace Go.Proofs.YtkamhpbfebdhjaaGreatDoor.Open
open Go.RowKit Go.Proofs.YtkamhpbfebdhjaaGreatDoor.Mem Go.Proofs.YtkamhpbfebdhjaaGreatDoor.Read Go.ChangeShapes Go.WideShapes
set_option linter.unusedVariables false
section
variable {H : Type} {enc : TypeId × Value → H} {P : Program} {w : World} {base : Nat} {spare : Nat → Bool} {held : Bool} {r : Reach} {b0 : Nat}
theorem cells_slice {A : Option Addr} {n c : Nat} {v u : Value} (hv : v = .slice A n c) (h : v.cells.toList = [u]) : u = v := by
  subst hv
  have h1 : [Value.slice A n c] = [u] := h
  exact ((List.cons.inj h1).1).symm
theorem open_row {α : Type} {sz : Nat} {R : World → α → List Value → Prop} {t e : TypeId} {fuel : Nat} {v : Value} {x : DataW H × List MemPlace} (ht : P.underlying t = some (.slice e)) (hC : P.cellsOf e = sz)
    (hR : ∀ fuel cs x, cs.length = sz → DataW.trod enc P w base spare held fuel e cs = some x → ∃ a, R w a cs)
    (hv : Value.okWide P w r b0 t v) (h : DataW.trod enc P w base spare held fuel t v.cells.toList = some x) : ∃ xs, SlR sz R w xs v := by
  obtain ⟨a, len, cap, hv'⟩ := okWide_slice ht hv
  obtain ⟨u, xs, hu, hx⟩ := open_sl (R := R) ht hC hR h
  rw [cells_slice hv' hu] at hx
  exact ⟨xs, hx⟩
theorem open_strs {t e : TypeId} {fuel : Nat} {v : Value} {x : DataW H × List MemPlace} (ht : P.underlying t = some (.slice e)) (he : P.underlying e = some .string) (hC : P.cellsOf e = 1)
    (hv : Value.okWide P w r b0 t v) (h : DataW.trod enc P w base spare held fuel t v.cells.toList = some x) : ∃ xs, SlR 1 strR w xs v :=
  open_row ht hC (fun fuel cs x hl ht => by
    obtain ⟨s, rfl, _, hz⟩ := DataW.trod_string he ht
    exact ⟨s, rfl, hz⟩) hv h
end
end Go.Proofs.YtkamhpbfebdhjaaGreatDoor.Open

/- Edits in memory, as they are read, and one's own. -/
namespace Go.Proofs.YtkamhpbfebdhjaaGreatDoor.CompR
open Go.RowKit Go.Lib Go.Proofs.YtkamhpbfebdhjaaGreatDoor.Mem Go.Proofs.YtkamhpbfebdhjaaGreatDoor.Read Go.Proofs.YtkamhpbfebdhjaaGreatDoor.AppSl Go.Proofs.YtkamhpbfebdhjaaGreatDoor.Tree Go.Proofs.YtkamhpbfebdhjaaGreatDoor.Data
set_option linter.unusedVariables false
set_option linter.unusedSimpArgs false
abbrev TC : TypeId := 29
def compCells (c : CompD) : List Value := [.int .i64 c.kind, .int .i64 c.n, .string c.text]
def compR : World → CompD → List Value → Prop := fun _ c cs => cs = compCells c ∧ c.text.size ≤ maxLen
abbrev CompsR (w : World) (xs : List CompD) (v : Value) : Prop := SlR 3 compR w xs v
theorem CompsR.to {w w' : World} {xs : List CompD} {v : Value} (h : CompsR w xs v) (hs : Step No w w') : CompsR w' xs v := h.step (fun _ _ h => h) hs
def CompsO (base : Nat) (w : World) (xs : List CompD) (v : Value) : Prop := w.ownsRow 0 TC 3 v xs.length (xs.flatMap compCells) ∧ ∀ k, v.ownBlock = some k → base ≤ k
theorem infoC : (Tryz.prog.info? 29).map (fun i => (i.zero, i.size, i.bytes)) = some (some (.agg #[.int .i64 0, .int .i64 0, .string ⟨#[]⟩]), 3, 32) := by kernel_rfl
theorem comps_len {w : World} {xs : List CompD} {v : Value} (h : CompsR w xs v) : ∃ A c, v = .slice A xs.length c ∧ xs.length ≤ c ∧ c ≤ maxLen := by
  obtain ⟨A, c, h1, h2, h3, _⟩ := h
  exact ⟨A, c, h1, h2, h3⟩
theorem comps_cells {w : World} {xs : List CompD} {A : Option Addr} {n c : Nat} (h : CompsR w xs (.slice A n c)) (k : Nat) (hk : k < xs.length) :
    ∃ ad, A = some ad ∧ (xs[k]).text.size ≤ maxLen ∧ w.cell? (ad.add (k * 3)) = some (.int .i64 (xs[k]).kind) ∧ w.cell? ⟨(ad.add (k * 3)).block, (ad.add (k * 3)).off + 1, none⟩ = some (.int .i64 (xs[k]).n) ∧ w.cell? ⟨(ad.add (k * 3)).block, (ad.add (k * 3)).off + 2, none⟩ = some (.string (xs[k]).text) := by
  obtain ⟨A', c', he, _, _, h3⟩ := h
  injection he with he1 _ _
  subst he1
  obtain ⟨ad, cs, e, _, ⟨rfl, hz⟩, hc⟩ := h3 k hk
  have key : ∀ i u, (compCells xs[k])[i]? = some u → w.cell? ((ad.add (k * 3)).add i) = some u := fun i u hu => by rw [add_add]; exact hc i u hu
  exact ⟨ad, e, hz, hc 0 _ rfl, key 1 _ rfl, key 2 _ rfl⟩
theorem comps_one {xs : List CompD} : ∀ u ∈ xs.flatMap compCells, u.oneCell' = true := by
  intro u hu
  obtain ⟨a, -, ha⟩ := List.mem_flatMap.1 hu
  simp only [compCells, List.mem_cons, List.not_mem_nil, or_false] at ha
  rcases ha with rfl | rfl | rfl <;> rfl
theorem comps_news {w : World} {xs : List CompD} {A : Option Addr} {n c : Nat} (h : CompsR w xs (.slice A n c)) :
    (A = none → xs.length = 0) ∧ (xs.flatMap compCells).length = xs.length * 3 ∧ ∀ ad, A = some ad → ∀ j u, (xs.flatMap compCells)[j]? = some u → w.cell? (ad.add j) = some u :=
  sl_news (by decide) (fun _ _ _ h => h.1) h
theorem CompsO.reads {base : Nat} {w : World} {xs : List CompD} {v : Value} (h : CompsO base w xs v) (ht : ∀ c ∈ xs, c.text.size ≤ maxLen) : CompsR w xs v :=
  SlR.ofRow (by decide) h.1 (fun a _ => rfl) (fun a ha => ⟨rfl, ht a ha⟩)
end Go.Proofs.YtkamhpbfebdhjaaGreatDoor.CompR

/- Steps, entries, trees and messages in memory, as they are read. -/
namespace Go.Proofs.YtkamhpbfebdhjaaGreatDoor.MsgR
open Go.RowKit Go.Lib Go.Proofs.YtkamhpbfebdhjaaGreatDoor.Mem Go.Proofs.YtkamhpbfebdhjaaGreatDoor.Read Go.Proofs.YtkamhpbfebdhjaaGreatDoor.AppSl Go.Proofs.YtkamhpbfebdhjaaGreatDoor.Tree Go.Proofs.YtkamhpbfebdhjaaGreatDoor.Data Go.Proofs.YtkamhpbfebdhjaaGreatDoor.CompR
set_option linter.unusedVariables false
set_option linter.unusedSimpArgs false
def stepCells (s : StepD) (kv : Value) : List Value := [.int .i64 s.kind, .int .i64 s.id, .int .i64 s.node, .int .i64 s.fr, .int .i64 s.up, kv]
def stepR (w : World) (s : StepD) (cs : List Value) : Prop := ∃ kv, cs = stepCells s kv ∧ SlR 1 intR w s.kids kv
abbrev StepsR (w : World) (xs : List StepD) (v : Value) : Prop := SlR 6 stepR w xs v
theorem stepR_step {w w' : World} (hs : Step No w w') (a : StepD) (cs : List Value) (h : stepR w a cs) : stepR w' a cs := by
  obtain ⟨kv, e, hk⟩ := h
  exact ⟨kv, e, ints_to hk hs⟩
theorem StepsR.to {w w' : World} {xs : List StepD} {v : Value} (h : StepsR w xs v) (hs : Step No w w') : StepsR w' xs v := h.step (stepR_step hs) hs
theorem sl_len {α : Type} {sz : Nat} {R : World → α → List Value → Prop} {w : World} {xs : List α} {v : Value} (h : SlR sz R w xs v) : ∃ A c, v = .slice A xs.length c ∧ xs.length ≤ c ∧ c ≤ maxLen := by
  obtain ⟨A, c, h1, h2, h3, _⟩ := h
  exact ⟨A, c, h1, h2, h3⟩
theorem sl_at {α : Type} {sz : Nat} {R : World → α → List Value → Prop} {w : World} {xs : List α} {A : Option Addr} {n c : Nat} (h : SlR sz R w xs (.slice A n c)) (k : Nat) (hk : k < xs.length) :
    ∃ ad cs, A = some ad ∧ cs.length = sz ∧ R w xs[k] cs ∧ ∀ i u, cs[i]? = some u → w.cell? ((ad.add (k * sz)).add i) = some u := by
  obtain ⟨A', c', he, _, _, h3⟩ := h
  injection he with he1 _ _
  subst he1
  obtain ⟨ad, cs, e, hl, hr, hc⟩ := h3 k hk
  exact ⟨ad, cs, e, hl, hr, fun i u hu => by rw [add_add]; exact hc i u hu⟩
theorem sl_nil {α : Type} {sz : Nat} {R : World → α → List Value → Prop} (w : World) : SlR sz R w [] (.slice none 0 0) := ⟨none, 0, rfl, Nat.le_refl _, by simp [maxLen], fun j h => absurd h (Nat.not_lt_zero _)⟩
theorem steps_cells {w : World} {xs : List StepD} {A : Option Addr} {n c : Nat} (h : StepsR w xs (.slice A n c)) (k : Nat) (hk : k < xs.length) :
    ∃ ad kv, A = some ad ∧ SlR 1 intR w xs[k].kids kv ∧ w.cell? (ad.add (k * 6)) = some (.int .i64 (xs[k]).kind) ∧ w.cell? ⟨(ad.add (k * 6)).block, (ad.add (k * 6)).off + 1, none⟩ = some (.int .i64 (xs[k]).id) ∧ w.cell? ⟨(ad.add (k * 6)).block, (ad.add (k * 6)).off + 2, none⟩ = some (.int .i64 (xs[k]).node) ∧
      w.cell? ⟨(ad.add (k * 6)).block, (ad.add (k * 6)).off + 3, none⟩ = some (.int .i64 (xs[k]).fr) ∧ w.cell? ⟨(ad.add (k * 6)).block, (ad.add (k * 6)).off + 4, none⟩ = some (.int .i64 (xs[k]).up) ∧ w.cell? ⟨(ad.add (k * 6)).block, (ad.add (k * 6)).off + 5, none⟩ = some kv := by
  obtain ⟨ad, cs, e, _, ⟨kv, rfl, hkv⟩, hc⟩ := sl_at h k hk
  exact ⟨ad, kv, e, hkv, hc 0 _ rfl, hc 1 _ rfl, hc 2 _ rfl, hc 3 _ rfl, hc 4 _ rfl, hc 5 _ rfl⟩
def entryCells (e : EntryD) (ev dv : Value) : List Value := [.int .i64 e.client, .int .i64 e.seq, ev, dv]
def entryR (w : World) (e : EntryD) (cs : List Value) : Prop := ∃ ev dv, cs = entryCells e ev dv ∧ CompsR w e.edit ev ∧ StepsR w e.delta dv
abbrev EntriesR (w : World) (xs : List EntryD) (v : Value) : Prop := SlR 4 entryR w xs v
theorem entryR_step {w w' : World} (hs : Step No w w') (a : EntryD) (cs : List Value) (h : entryR w a cs) : entryR w' a cs := by
  obtain ⟨ev, dv, e, h1, h2⟩ := h
  exact ⟨ev, dv, e, h1.to hs, h2.to hs⟩
theorem EntriesR.to {w w' : World} {xs : List EntryD} {v : Value} (h : EntriesR w xs v) (hs : Step No w w') : EntriesR w' xs v := h.step (entryR_step hs) hs
theorem entries_cells {w : World} {xs : List EntryD} {A : Option Addr} {n c : Nat} (h : EntriesR w xs (.slice A n c)) (k : Nat) (hk : k < xs.length) :
    ∃ ad ev dv, A = some ad ∧ CompsR w xs[k].edit ev ∧ StepsR w xs[k].delta dv ∧ w.cell? (ad.add (k * 4)) = some (.int .i64 (xs[k]).client) ∧ w.cell? ⟨(ad.add (k * 4)).block, (ad.add (k * 4)).off + 1, none⟩ = some (.int .i64 (xs[k]).seq) ∧ w.cell? ⟨(ad.add (k * 4)).block, (ad.add (k * 4)).off + 2, none⟩ = some ev ∧
      w.cell? ⟨(ad.add (k * 4)).block, (ad.add (k * 4)).off + 3, none⟩ = some dv := by
  obtain ⟨ad, cs, e, _, ⟨ev, dv, rfl, h1, h2⟩, hc⟩ := sl_at h k hk
  exact ⟨ad, ev, dv, e, h1, h2, hc 0 _ rfl, hc 1 _ rfl, hc 2 _ rfl, hc 3 _ rfl⟩
def aggE (e : EntryD) (ev dv : Value) : Value := .agg #[.int .i64 e.client, .int .i64 e.seq, ev, dv]
def aggS (s : StepD) (kv : Value) : Value := .agg #[.int .i64 s.kind, .int .i64 s.id, .int .i64 s.node, .int .i64 s.fr, .int .i64 s.up, kv]
def aggT (t : TreeD) (nv : Value) : Value := .agg #[.int .i64 t.root, .int .i64 t.next, nv]
/-- The cells of a message. -/
def msgCells (m : MsgD) (ev env nv : Value) : Array Value := #[.int .i64 m.kind, .int .i64 m.client, .int .i64 m.rev, .int .i64 m.seq, .int .i64 m.fr, .int .i64 m.last, .bool m.refused, ev, env, .string m.text, .int .i64 m.tree.root, .int .i64 m.tree.next, nv]
def aggM (m : MsgD) (ev env nv : Value) : Value := .agg (msgCells m ev env nv)
/-- What hangs on a message's rows. -/
structure MsgR (w : World) (m : MsgD) (ev env nv : Value) : Prop where
  edit : CompsR w m.edit ev
  entries : EntriesR w m.entries env
  nodes : NodesR w m.tree.nodes nv
  text : m.text.size ≤ maxLen
theorem MsgR.to {w w' : World} {m : MsgD} {ev env nv : Value} (h : MsgR w m ev env nv) (hs : Step No w w') : MsgR w' m ev env nv := ⟨h.edit.to hs, h.entries.to hs, h.nodes.to hs, h.text⟩
end Go.Proofs.YtkamhpbfebdhjaaGreatDoor.MsgR

/- strings.Cut at one byte, and what a taker's digits need of it. -/
namespace Go.Proofs.YtkamhpbfebdhjaaGreatDoor.Cut
open Go.RowKit Go.Lib Go.Proofs.YtkamhpbfebdhjaaGreatDoor.Mem Go.Proofs.YtkamhpbfebdhjaaGreatDoor.Dec
set_option linter.unusedVariables false
set_option linter.unusedSimpArgs false
theorem index_cut (e : UInt8) : ∀ l : List UInt8, (indexByte l e = -1 ∧ cutAt e l = none) ∨ (∃ k : Nat, indexByte l e = k ∧ k < l.length ∧ cutAt e l = some (l.take k, l.drop (k + 1)))
  | [] => .inl ⟨rfl, rfl⟩
  | b :: l => by
    by_cases h : b = e
    · subst h
      exact .inr ⟨0, by simp [indexByte], by simp, by simp [cutAt]⟩
    · have hb : (b == e) = false := beq_eq_false_iff_ne.2 h
      rcases index_cut e l with ⟨h1, h2⟩ | ⟨k, h1, h2, h3⟩
      · exact .inl ⟨by simp [indexByte, hb, h1], by simp [cutAt, h, h2]⟩
      · have hk : ((k : Int) == -1) = false := beq_eq_false_iff_ne.2 (by omega)
        exact .inr ⟨k + 1, by simp [indexByte, hb, h1, hk], by simp; omega, by simp [cutAt, h, h3]⟩
set_option maxRecDepth 100000 in
theorem index1_any (s : ByteArray) (e : UInt8) (w : World) : Calls Tryz.prog 108 #[.string s, .string ⟨#[e]⟩] w fun r w' => r = .returned (.int .i64 (indexByte s.data.toList e)) ∧ w' = w := by
  by_cases hs : s.data.toList = [e]
  · have hb : ([e] == s.toList) = true := by rw [ByteArray.toList_eq, hs]; exact beq_self_eq_true _
    have hi : indexByte s.data.toList e = 0 := by rw [hs]; simp [indexByte]
    rw [hi]
    clear hs hi
    go_enter Tryz.func108, Tryz.ntmps108
    go_wp2_with fail
    go_ret
    exact ⟨rfl, rfl⟩
  · have hb : ([e] == s.toList) = false := by rw [ByteArray.toList_eq]; exact beq_eq_false_iff_ne.2 (fun h => hs h.symm)
    have he : ((e.toNat : Nat) : Int).toNat.toUInt8 = e := by simp
    have Hhs := Lib.hid hs
    have Hhe := Lib.hid he
    clear hs he
    go_enter Tryz.func108, Tryz.ntmps108
    go_wp2_with fail
    refine (Tryz.stringslite_IndexByte s _ _).mono ?_
    rintro r w' ⟨rfl, rfl⟩
    go_wp2_with fail
    go_ret
    exact ⟨rfl, rfl⟩
theorem ext_take (s : ByteArray) (k : Nat) : s.extract 0 k = ⟨(s.data.toList.take k).toArray⟩ := by
  apply ByteArray.ext
  apply Array.ext'
  simp
theorem ext_drop (s : ByteArray) (k : Nat) : s.extract k s.size = ⟨(s.data.toList.drop k).toArray⟩ := by
  apply ByteArray.ext
  apply Array.ext'
  rw [ByteArray.data_extract, Array.toList_extract]
  show (s.data.toList.drop k).take (s.size - k) = s.data.toList.drop k
  exact List.take_of_length_le (by rw [List.length_drop, Array.length_toList]; exact Nat.le_refl _)
def CutPost (e : UInt8) (s : ByteArray) (w : World) (r : Ending) (w' : World) : Prop :=
  Step No w w' ∧ ((∃ p q, cutAt e s.data.toList = some (p, q) ∧ r = .returned (.tuple #[.string ⟨p.toArray⟩, .string ⟨q.toArray⟩, .bool true])) ∨ (cutAt e s.data.toList = none ∧ r = .returned (.tuple #[.string s, .string ⟨#[]⟩, .bool false])))
set_option maxRecDepth 100000 in
theorem cut1_any (s : ByteArray) (e : UInt8) (w : World) (hs : s.size ≤ maxLen) : Calls Tryz.prog 100 #[.string s, .string ⟨#[e]⟩] w (CutPost e s w) := by
  unfold maxLen at hs
  rcases index_cut e s.data.toList with ⟨h1, h2⟩ | ⟨k, h1, h2, h3⟩
  · have Hh2 := Lib.hid h2
    have Hhs := Lib.hid hs
    clear h2 hs
    go_enter Tryz.func100, Tryz.ntmps100
    go_wp2_with fail
    refine (index1_any s e _).mono ?_
    rintro r w' ⟨rfl, rfl⟩
    rw [h1]
    go_wp2
    go_ret3
    exact ⟨Step.refl _ _, .inr ⟨Hh2.out, rfl⟩⟩
  · have hk : (0 : Int) ≤ k := by omega
    have hl : k < s.size := by rw [Array.length_toList] at h2; exact h2
    have hk1 : (k : Int) ≤ s.size := by omega
    have hk2 : (k : Int) + 1 ≤ s.size := by omega
    have Hh2 := Lib.hid h2
    have Hh3 := Lib.hid h3
    clear h2 h3
    go_enter Tryz.func100, Tryz.ntmps100
    go_wp2_with fail
    refine (index1_any s e _).mono ?_
    rintro r w' ⟨rfl, rfl⟩
    rw [h1]
    go_wp2
    go_region
    all_goals
      go_wp2
      go_ret3
      exact ⟨(by repeat' (first | exact Step.refl _ _ | with_reducible assumption | refine Step.drew ?_ | refine Step.drewN ?_ _ | refine Step.alloc ?_ _)), .inl ⟨_, _, Hh3.out, by rw [← ext_take, ← ext_drop]; rfl⟩⟩
set_option maxRecDepth 100000 in
theorem Cut_any (s : ByteArray) (e : UInt8) (w : World) (hs : s.size ≤ maxLen) : Calls Tryz.prog 94 #[.string s, .string ⟨#[e]⟩] w (CutPost e s w) := by
  go_enter Tryz.func94, Tryz.ntmps94
  go_wp2_with fail
  refine (cut1_any s e _ hs).mono ?_
  rintro r w' ⟨hst, h⟩
  have Hhst := Lib.hid hst
  clear hst
  rcases h with ⟨p, q, h1, rfl⟩ | ⟨h1, rfl⟩
  · have Hh1 := Lib.hid h1
    clear h1
    go_wp2
    go_ret3
    exact ⟨Hhst.out, .inl ⟨p, q, Hh1.out, rfl⟩⟩
  · have Hh1 := Lib.hid h1
    clear h1
    go_wp2
    go_ret3
    exact ⟨Hhst.out, .inr ⟨Hh1.out, rfl⟩⟩
end Go.Proofs.YtkamhpbfebdhjaaGreatDoor.Cut
