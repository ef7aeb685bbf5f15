/- Several of my texts in one file: Env, Open, CompR, MsgR, Cut, SumWalk, RefSum, RefDec. -/
import Derived.Test.YtjeamfoicpgkhaaGreatDoorLumpA
import Derived.Test.YtjeamfoicpgkhaaGreatDoorProg
import Derived.Test.YtjeamfoicpgkhaaGreatDoorShelf
import Derived.Lib.AppendIntMem
import Derived.Test.YtjeamfoicpgkhaaGreatDoorChecked
import Derived.WalkKit
import Derived.Lib.Hide
import Derived.BigQuiet
import Derived.Deep.QuietTactic
import Derived.Deep.DeepFit
import Derived.Outline
import Derived.Lib.UnsafeStr
/- The library's package variables that the code reads, as the rows lay them. -/
namespace Go.Proofs.YtjeamfoicpgkhaaGreatDoor.Env
open Go.RowKit Go.Lib Go.Proofs.YtjeamfoicpgkhaaGreatDoor.Mem
set_option linter.unusedVariables false
theorem var_step {P : Program} {w w' : World} {n : String} {cs : Array Value} (h : Step No w w') (hv : w.var? P n = some cs) : w'.var? P n = some cs := by
  unfold World.var? at hv ⊢
  cases hg : P.globalNamed n with
  | none => rw [hg] at hv; simp at hv
  | some g =>
    rw [hg] at hv
    simp only [Option.bind_some] at hv ⊢
    cases hb : w.heap[g]? with
    | none => rw [hb] at hv; simp at hv
    | some o =>
      rw [h.blk hb (fun f => f)]
      rw [hb] at hv
      exact hv
def Env (w : World) : Prop :=
  TabIs Tryz.prog w "internal/strconv.uint64pow10" .u64 pow10Tab ∧ (∃ tp p, w.var? Tryz.prog "strconv.ErrSyntax" = some #[.iface tp p]) ∧ ∃ tp p, w.var? Tryz.prog "strconv.ErrRange" = some #[.iface tp p]
theorem Env.step {w w' : World} (h : Env w) (hs : Step No w w') : Env w' := by
  obtain ⟨h1, ⟨a, b, h2⟩, c, d, h3⟩ := h
  exact ⟨var_step hs h1, ⟨a, b, var_step hs h2⟩, c, d, var_step hs h3⟩
theorem grow_step {w : World} (k : Nat) (os : Array Obj) : Step No w (Go.Sort.grow (w.drewN k) os) := Step.ofBelow (Lib.below_grow _ w (Nat.le_refl _) k os)
end Go.Proofs.YtjeamfoicpgkhaaGreatDoor.Env

/- Arguments that lie in memory: what they read as. -/
namespace Go.Proofs.YtjeamfoicpgkhaaGreatDoor.Open
open Go.RowKit Go.Proofs.YtjeamfoicpgkhaaGreatDoor.Mem Go.Proofs.YtjeamfoicpgkhaaGreatDoor.Read Go.ChangeShapes Go.WideShapes
set_option linter.unusedVariables false
section
variable {H : Type} {enc : TypeId × Value → H} {P : Program} {w : World} {base : Nat} {spare : Nat → Bool} {held : Bool} {r : Reach} {b0 : Nat}
theorem cells_slice {A : Option Addr} {n c : Nat} {v u : Value} (hv : v = .slice A n c) (h : v.cells.toList = [u]) : u = v := by
  subst hv
  have h1 : [Value.slice A n c] = [u] := h
  exact ((List.cons.inj h1).1).symm
theorem open_row {α : Type} {sz : Nat} {R : World → α → List Value → Prop} {t e : TypeId} {fuel : Nat} {v : Value} {x : DataW H × List MemPlace} (ht : P.underlying t = some (.slice e)) (hC : P.cellsOf e = sz)
    (hR : ∀ fuel cs x, cs.length = sz → DataW.trod enc P w base spare held fuel e cs = some x → ∃ a, R w a cs)
    (hv : Value.okWide P w r b0 t v) (h : DataW.trod enc P w base spare held fuel t v.cells.toList = some x) : ∃ xs, SlR sz R w xs v := by
  obtain ⟨a, len, cap, hv'⟩ := okWide_slice ht hv
  obtain ⟨u, xs, hu, hx⟩ := open_sl (R := R) ht hC hR h
  rw [cells_slice hv' hu] at hx
  exact ⟨xs, hx⟩
theorem open_strs {t e : TypeId} {fuel : Nat} {v : Value} {x : DataW H × List MemPlace} (ht : P.underlying t = some (.slice e)) (he : P.underlying e = some .string) (hC : P.cellsOf e = 1)
    (hv : Value.okWide P w r b0 t v) (h : DataW.trod enc P w base spare held fuel t v.cells.toList = some x) : ∃ xs, SlR 1 strR w xs v :=
  open_row ht hC (fun fuel cs x hl ht => by
    obtain ⟨s, rfl, _, hz⟩ := DataW.trod_string he ht
    exact ⟨s, rfl, hz⟩) hv h
end
end Go.Proofs.YtjeamfoicpgkhaaGreatDoor.Open

/- Edits in memory, as they are read, and one's own. -/
namespace Go.Proofs.YtjeamfoicpgkhaaGreatDoor.CompR
open Go.RowKit Go.Lib Go.Proofs.YtjeamfoicpgkhaaGreatDoor.Mem Go.Proofs.YtjeamfoicpgkhaaGreatDoor.Read Go.Proofs.YtjeamfoicpgkhaaGreatDoor.AppSl Go.Proofs.YtjeamfoicpgkhaaGreatDoor.Tree Go.Proofs.YtjeamfoicpgkhaaGreatDoor.Data
set_option linter.unusedVariables false
set_option linter.unusedSimpArgs false
abbrev TC : TypeId := 48
def compCells (c : CompD) : List Value := [.int .i64 c.kind, .int .i64 c.n, .string c.text]
def compR : World → CompD → List Value → Prop := fun _ c cs => cs = compCells c ∧ c.text.size ≤ maxLen
abbrev CompsR (w : World) (xs : List CompD) (v : Value) : Prop := SlR 3 compR w xs v
theorem CompsR.to {w w' : World} {xs : List CompD} {v : Value} (h : CompsR w xs v) (hs : Step No w w') : CompsR w' xs v := h.step (fun _ _ h => h) hs
def CompsO (base : Nat) (w : World) (xs : List CompD) (v : Value) : Prop := w.ownsRow 0 TC 3 v xs.length (xs.flatMap compCells) ∧ ∀ k, v.ownBlock = some k → base ≤ k
theorem infoC : (Tryz.prog.info? 48).map (fun i => (i.zero, i.size, i.bytes)) = some (some (.agg #[.int .i64 0, .int .i64 0, .string ⟨#[]⟩]), 3, 32) := by kernel_rfl
theorem comps_len {w : World} {xs : List CompD} {v : Value} (h : CompsR w xs v) : ∃ A c, v = .slice A xs.length c ∧ xs.length ≤ c ∧ c ≤ maxLen := by
  obtain ⟨A, c, h1, h2, h3, _⟩ := h
  exact ⟨A, c, h1, h2, h3⟩
theorem comps_cells {w : World} {xs : List CompD} {A : Option Addr} {n c : Nat} (h : CompsR w xs (.slice A n c)) (k : Nat) (hk : k < xs.length) :
    ∃ ad, A = some ad ∧ (xs[k]).text.size ≤ maxLen ∧ w.cell? (ad.add (k * 3)) = some (.int .i64 (xs[k]).kind) ∧ w.cell? ⟨(ad.add (k * 3)).block, (ad.add (k * 3)).off + 1, none⟩ = some (.int .i64 (xs[k]).n) ∧ w.cell? ⟨(ad.add (k * 3)).block, (ad.add (k * 3)).off + 2, none⟩ = some (.string (xs[k]).text) := by
  obtain ⟨A', c', he, _, _, h3⟩ := h
  injection he with he1 _ _
  subst he1
  obtain ⟨ad, cs, e, _, ⟨rfl, hz⟩, hc⟩ := h3 k hk
  have key : ∀ i u, (compCells xs[k])[i]? = some u → w.cell? ((ad.add (k * 3)).add i) = some u := fun i u hu => by rw [add_add]; exact hc i u hu
  exact ⟨ad, e, hz, hc 0 _ rfl, key 1 _ rfl, key 2 _ rfl⟩
theorem comps_one {xs : List CompD} : ∀ u ∈ xs.flatMap compCells, u.oneCell' = true := by
  intro u hu
  obtain ⟨a, -, ha⟩ := List.mem_flatMap.1 hu
  simp only [compCells, List.mem_cons, List.not_mem_nil, or_false] at ha
  rcases ha with rfl | rfl | rfl <;> rfl
theorem comps_news {w : World} {xs : List CompD} {A : Option Addr} {n c : Nat} (h : CompsR w xs (.slice A n c)) :
    (A = none → xs.length = 0) ∧ (xs.flatMap compCells).length = xs.length * 3 ∧ ∀ ad, A = some ad → ∀ j u, (xs.flatMap compCells)[j]? = some u → w.cell? (ad.add j) = some u :=
  sl_news (by decide) (fun _ _ _ h => h.1) h
theorem CompsO.reads {base : Nat} {w : World} {xs : List CompD} {v : Value} (h : CompsO base w xs v) (ht : ∀ c ∈ xs, c.text.size ≤ maxLen) : CompsR w xs v :=
  SlR.ofRow (by decide) h.1 (fun a _ => rfl) (fun a ha => ⟨rfl, ht a ha⟩)
end Go.Proofs.YtjeamfoicpgkhaaGreatDoor.CompR

/- Steps, entries, trees and messages in memory, as they are read. -/
namespace Go.Proofs.YtjeamfoicpgkhaaGreatDoor.MsgR
open Go.RowKit Go.Lib Go.Proofs.YtjeamfoicpgkhaaGreatDoor.Mem Go.Proofs.YtjeamfoicpgkhaaGreatDoor.Read Go.Proofs.YtjeamfoicpgkhaaGreatDoor.AppSl Go.Proofs.YtjeamfoicpgkhaaGreatDoor.Tree Go.Proofs.YtjeamfoicpgkhaaGreatDoor.Data Go.Proofs.YtjeamfoicpgkhaaGreatDoor.CompR
set_option linter.unusedVariables false
set_option linter.unusedSimpArgs false
def stepCells (s : StepD) (kv : Value) : List Value := [.int .i64 s.kind, .int .i64 s.id, .int .i64 s.node, .int .i64 s.fr, .int .i64 s.up, kv]
def stepR (w : World) (s : StepD) (cs : List Value) : Prop := ∃ kv, cs = stepCells s kv ∧ SlR 1 intR w s.kids kv
abbrev StepsR (w : World) (xs : List StepD) (v : Value) : Prop := SlR 6 stepR w xs v
theorem stepR_step {w w' : World} (hs : Step No w w') (a : StepD) (cs : List Value) (h : stepR w a cs) : stepR w' a cs := by
  obtain ⟨kv, e, hk⟩ := h
  exact ⟨kv, e, ints_to hk hs⟩
theorem StepsR.to {w w' : World} {xs : List StepD} {v : Value} (h : StepsR w xs v) (hs : Step No w w') : StepsR w' xs v := h.step (stepR_step hs) hs
theorem sl_len {α : Type} {sz : Nat} {R : World → α → List Value → Prop} {w : World} {xs : List α} {v : Value} (h : SlR sz R w xs v) : ∃ A c, v = .slice A xs.length c ∧ xs.length ≤ c ∧ c ≤ maxLen := by
  obtain ⟨A, c, h1, h2, h3, _⟩ := h
  exact ⟨A, c, h1, h2, h3⟩
theorem sl_at {α : Type} {sz : Nat} {R : World → α → List Value → Prop} {w : World} {xs : List α} {A : Option Addr} {n c : Nat} (h : SlR sz R w xs (.slice A n c)) (k : Nat) (hk : k < xs.length) :
    ∃ ad cs, A = some ad ∧ cs.length = sz ∧ R w xs[k] cs ∧ ∀ i u, cs[i]? = some u → w.cell? ((ad.add (k * sz)).add i) = some u := by
  obtain ⟨A', c', he, _, _, h3⟩ := h
  injection he with he1 _ _
  subst he1
  obtain ⟨ad, cs, e, hl, hr, hc⟩ := h3 k hk
  exact ⟨ad, cs, e, hl, hr, fun i u hu => by rw [add_add]; exact hc i u hu⟩
theorem sl_nil {α : Type} {sz : Nat} {R : World → α → List Value → Prop} (w : World) : SlR sz R w [] (.slice none 0 0) := ⟨none, 0, rfl, Nat.le_refl _, by simp [maxLen], fun j h => absurd h (Nat.not_lt_zero _)⟩
theorem steps_cells {w : World} {xs : List StepD} {A : Option Addr} {n c : Nat} (h : StepsR w xs (.slice A n c)) (k : Nat) (hk : k < xs.length) :
    ∃ ad kv, A = some ad ∧ SlR 1 intR w xs[k].kids kv ∧ w.cell? (ad.add (k * 6)) = some (.int .i64 (xs[k]).kind) ∧ w.cell? ⟨(ad.add (k * 6)).block, (ad.add (k * 6)).off + 1, none⟩ = some (.int .i64 (xs[k]).id) ∧ w.cell? ⟨(ad.add (k * 6)).block, (ad.add (k * 6)).off + 2, none⟩ = some (.int .i64 (xs[k]).node) ∧
      w.cell? ⟨(ad.add (k * 6)).block, (ad.add (k * 6)).off + 3, none⟩ = some (.int .i64 (xs[k]).fr) ∧ w.cell? ⟨(ad.add (k * 6)).block, (ad.add (k * 6)).off + 4, none⟩ = some (.int .i64 (xs[k]).up) ∧ w.cell? ⟨(ad.add (k * 6)).block, (ad.add (k * 6)).off + 5, none⟩ = some kv := by
  obtain ⟨ad, cs, e, _, ⟨kv, rfl, hkv⟩, hc⟩ := sl_at h k hk
  exact ⟨ad, kv, e, hkv, hc 0 _ rfl, hc 1 _ rfl, hc 2 _ rfl, hc 3 _ rfl, hc 4 _ rfl, hc 5 _ rfl⟩
def entryCells (e : EntryD) (ev dv : Value) : List Value := [.int .i64 e.client, .int .i64 e.seq, ev, dv]
def entryR (w : World) (e : EntryD) (cs : List Value) : Prop := ∃ ev dv, cs = entryCells e ev dv ∧ CompsR w e.edit ev ∧ StepsR w e.delta dv
abbrev EntriesR (w : World) (xs : List EntryD) (v : Value) : Prop := SlR 4 entryR w xs v
theorem entryR_step {w w' : World} (hs : Step No w w') (a : EntryD) (cs : List Value) (h : entryR w a cs) : entryR w' a cs := by
  obtain ⟨ev, dv, e, h1, h2⟩ := h
  exact ⟨ev, dv, e, h1.to hs, h2.to hs⟩
theorem EntriesR.to {w w' : World} {xs : List EntryD} {v : Value} (h : EntriesR w xs v) (hs : Step No w w') : EntriesR w' xs v := h.step (entryR_step hs) hs
theorem entries_cells {w : World} {xs : List EntryD} {A : Option Addr} {n c : Nat} (h : EntriesR w xs (.slice A n c)) (k : Nat) (hk : k < xs.length) :
    ∃ ad ev dv, A = some ad ∧ CompsR w xs[k].edit ev ∧ StepsR w xs[k].delta dv ∧ w.cell? (ad.add (k * 4)) = some (.int .i64 (xs[k]).client) ∧ w.cell? ⟨(ad.add (k * 4)).block, (ad.add (k * 4)).off + 1, none⟩ = some (.int .i64 (xs[k]).seq) ∧ w.cell? ⟨(ad.add (k * 4)).block, (ad.add (k * 4)).off + 2, none⟩ = some ev ∧
      w.cell? ⟨(ad.add (k * 4)).block, (ad.add (k * 4)).off + 3, none⟩ = some dv := by
  obtain ⟨ad, cs, e, _, ⟨ev, dv, rfl, h1, h2⟩, hc⟩ := sl_at h k hk
  exact ⟨ad, ev, dv, e, h1, h2, hc 0 _ rfl, hc 1 _ rfl, hc 2 _ rfl, hc 3 _ rfl⟩
def aggE (e : EntryD) (ev dv : Value) : Value := .agg #[.int .i64 e.client, .int .i64 e.seq, ev, dv]
def aggS (s : StepD) (kv : Value) : Value := .agg #[.int .i64 s.kind, .int .i64 s.id, .int .i64 s.node, .int .i64 s.fr, .int .i64 s.up, kv]
def aggT (t : TreeD) (nv : Value) : Value := .agg #[.int .i64 t.root, .int .i64 t.next, nv]
/-- The cells of a message. -/
def msgCells (m : MsgD) (ev env nv : Value) : Array Value := #[.int .i64 m.kind, .int .i64 m.client, .int .i64 m.rev, .int .i64 m.seq, .int .i64 m.fr, .int .i64 m.last, .bool m.refused, ev, env, .string m.text, .int .i64 m.tree.root, .int .i64 m.tree.next, nv]
def aggM (m : MsgD) (ev env nv : Value) : Value := .agg (msgCells m ev env nv)
/-- What hangs on a message's rows. -/
structure MsgR (w : World) (m : MsgD) (ev env nv : Value) : Prop where
  edit : CompsR w m.edit ev
  entries : EntriesR w m.entries env
  nodes : NodesR w m.tree.nodes nv
  text : m.text.size ≤ maxLen
theorem MsgR.to {w w' : World} {m : MsgD} {ev env nv : Value} (h : MsgR w m ev env nv) (hs : Step No w w') : MsgR w' m ev env nv := ⟨h.edit.to hs, h.entries.to hs, h.nodes.to hs, h.text⟩
end Go.Proofs.YtjeamfoicpgkhaaGreatDoor.MsgR

/- strings.Cut at one byte, and what a taker's digits need of it. -/
namespace Go.Proofs.YtjeamfoicpgkhaaGreatDoor.Cut
open Go.RowKit Go.Lib Go.Proofs.YtjeamfoicpgkhaaGreatDoor.Mem Go.Proofs.YtjeamfoicpgkhaaGreatDoor.Dec
set_option linter.unusedVariables false
set_option linter.unusedSimpArgs false
theorem index_cut (e : UInt8) : ∀ l : List UInt8, (indexByte l e = -1 ∧ cutAt e l = none) ∨ (∃ k : Nat, indexByte l e = k ∧ k < l.length ∧ cutAt e l = some (l.take k, l.drop (k + 1)))
  | [] => .inl ⟨rfl, rfl⟩
  | b :: l => by
    by_cases h : b = e
    · subst h
      exact .inr ⟨0, by simp [indexByte], by simp, by simp [cutAt]⟩
    · have hb : (b == e) = false := beq_eq_false_iff_ne.2 h
      rcases index_cut e l with ⟨h1, h2⟩ | ⟨k, h1, h2, h3⟩
      · exact .inl ⟨by simp [indexByte, hb, h1], by simp [cutAt, h, h2]⟩
      · have hk : ((k : Int) == -1) = false := beq_eq_false_iff_ne.2 (by omega)
        exact .inr ⟨k + 1, by simp [indexByte, hb, h1, hk], by simp; omega, by simp [cutAt, h, h3]⟩
set_option maxRecDepth 100000 in
theorem index1_any (s : ByteArray) (e : UInt8) (w : World) : Calls Tryz.prog 156 #[.string s, .string ⟨#[e]⟩] w fun r w' => r = .returned (.int .i64 (indexByte s.data.toList e)) ∧ w' = w := by
  by_cases hs : s.data.toList = [e]
  · have hb : ([e] == s.toList) = true := by rw [ByteArray.toList_eq, hs]; exact beq_self_eq_true _
    have hi : indexByte s.data.toList e = 0 := by rw [hs]; simp [indexByte]
    rw [hi]
    clear hs hi
    go_enter Tryz.func156, Tryz.ntmps156
    go_wp2_with fail
    go_ret
    exact ⟨rfl, rfl⟩
  · have hb : ([e] == s.toList) = false := by rw [ByteArray.toList_eq]; exact beq_eq_false_iff_ne.2 (fun h => hs h.symm)
    have he : ((e.toNat : Nat) : Int).toNat.toUInt8 = e := by simp
    have Hhs := Lib.hid hs
    have Hhe := Lib.hid he
    clear hs he
    go_enter Tryz.func156, Tryz.ntmps156
    go_wp2_with fail
    refine (Tryz.stringslite_IndexByte s _ _).mono ?_
    rintro r w' ⟨rfl, rfl⟩
    go_wp2_with fail
    go_ret
    exact ⟨rfl, rfl⟩
theorem ext_take (s : ByteArray) (k : Nat) : s.extract 0 k = ⟨(s.data.toList.take k).toArray⟩ := by
  apply ByteArray.ext
  apply Array.ext'
  simp
theorem ext_drop (s : ByteArray) (k : Nat) : s.extract k s.size = ⟨(s.data.toList.drop k).toArray⟩ := by
  apply ByteArray.ext
  apply Array.ext'
  rw [ByteArray.data_extract, Array.toList_extract]
  show (s.data.toList.drop k).take (s.size - k) = s.data.toList.drop k
  exact List.take_of_length_le (by rw [List.length_drop, Array.length_toList]; exact Nat.le_refl _)
def CutPost (e : UInt8) (s : ByteArray) (w : World) (r : Ending) (w' : World) : Prop :=
  Step No w w' ∧ ((∃ p q, cutAt e s.data.toList = some (p, q) ∧ r = .returned (.tuple #[.string ⟨p.toArray⟩, .string ⟨q.toArray⟩, .bool true])) ∨ (cutAt e s.data.toList = none ∧ r = .returned (.tuple #[.string s, .string ⟨#[]⟩, .bool false])))
set_option maxRecDepth 100000 in
theorem cut1_any (s : ByteArray) (e : UInt8) (w : World) (hs : s.size ≤ maxLen) : Calls Tryz.prog 146 #[.string s, .string ⟨#[e]⟩] w (CutPost e s w) := by
  unfold maxLen at hs
  rcases index_cut e s.data.toList with ⟨h1, h2⟩ | ⟨k, h1, h2, h3⟩
  · have Hh2 := Lib.hid h2
    have Hhs := Lib.hid hs
    clear h2 hs
    go_enter Tryz.func146, Tryz.ntmps146
    go_wp2_with fail
    refine (index1_any s e _).mono ?_
    rintro r w' ⟨rfl, rfl⟩
    rw [h1]
    go_wp2
    go_ret3
    exact ⟨Step.refl _ _, .inr ⟨Hh2.out, rfl⟩⟩
  · have hk : (0 : Int) ≤ k := by omega
    have hl : k < s.size := by rw [Array.length_toList] at h2; exact h2
    have hk1 : (k : Int) ≤ s.size := by omega
    have hk2 : (k : Int) + 1 ≤ s.size := by omega
    have Hh2 := Lib.hid h2
    have Hh3 := Lib.hid h3
    clear h2 h3
    go_enter Tryz.func146, Tryz.ntmps146
    go_wp2_with fail
    refine (index1_any s e _).mono ?_
    rintro r w' ⟨rfl, rfl⟩
    rw [h1]
    go_wp2
    go_region
    all_goals
      go_wp2
      go_ret3
      exact ⟨(by repeat' (first | exact Step.refl _ _ | with_reducible assumption | refine Step.drew ?_ | refine Step.drewN ?_ _ | refine Step.alloc ?_ _)), .inl ⟨_, _, Hh3.out, by rw [← ext_take, ← ext_drop]; rfl⟩⟩
set_option maxRecDepth 100000 in
theorem Cut_any (s : ByteArray) (e : UInt8) (w : World) (hs : s.size ≤ maxLen) : Calls Tryz.prog 121 #[.string s, .string ⟨#[e]⟩] w (CutPost e s w) := by
  go_enter Tryz.func121, Tryz.ntmps121
  go_wp2_with fail
  refine (cut1_any s e _ hs).mono ?_
  rintro r w' ⟨hst, h⟩
  have Hhst := Lib.hid hst
  clear hst
  rcases h with ⟨p, q, h1, rfl⟩ | ⟨h1, rfl⟩
  · have Hh1 := Lib.hid h1
    clear h1
    go_wp2
    go_ret3
    exact ⟨Hhst.out, .inl ⟨p, q, Hh1.out, rfl⟩⟩
  · have Hh1 := Lib.hid h1
    clear h1
    go_wp2
    go_ret3
    exact ⟨Hhst.out, .inr ⟨Hh1.out, rfl⟩⟩
end Go.Proofs.YtjeamfoicpgkhaaGreatDoor.Cut

/- The contract of the program's Sum: it gives the weighted sum of a text's bytes, and leaves memory alone. -/
namespace Go.Proofs.YtjeamfoicpgkhaaGreatDoor.SumWalk
open Go.RowKit Go.Proofs.YtjeamfoicpgkhaaGreatDoor.SumMath
set_option linter.unusedVariables false
set_option linter.unusedSimpArgs false

theorem sum_step (l : List UInt8) (k : Nat) (h : k < l.length) :
    sumL (l.take (k + 1)) = (sumL (l.take k) + ((k : Int) + 1) % 1000003 * (l[k].toNat : Int)) % 1000003 := by
  unfold sumL
  rw [List.take_succ_eq_append_getElem h, wsum_append]
  have hl : (l.take k).length = k := by rw [List.length_take]; omega
  rw [hl]
  simp only [wsum]
  rw [show (0 : Int) + (k : Int) + 1 = (k : Int) + 1 from by omega]
  have e : ((k : Int) + 1) * (l[k].toNat : Int) = ((k : Int) + 1) % 1000003 * (l[k].toNat : Int) + 1000003 * (((k : Int) + 1) / 1000003 * (l[k].toNat : Int)) := by
    rw [← Int.mul_assoc, ← Int.add_mul, Int.emod_add_mul_ediv]
  rw [e]
  generalize ((k : Int) + 1) % 1000003 * (l[k].toNat : Int) = a
  generalize ((k : Int) + 1) / 1000003 * (l[k].toNat : Int) = b
  omega
theorem step_bound (k : Int) (c : Int) (hc : 0 ≤ c ∧ c ≤ 255) : 0 ≤ (k + 1) % 1000003 * c ∧ (k + 1) % 1000003 * c ≤ 255000765 := by
  have h1 : 0 ≤ (k + 1) % 1000003 := Int.emod_nonneg _ (by omega)
  have h2 : (k + 1) % 1000003 < 1000003 := Int.emod_lt_of_pos _ (by omega)
  have := Int.mul_le_mul (show (k + 1) % 1000003 ≤ 1000003 by omega) hc.2 hc.1 (by omega)
  exact ⟨Int.mul_nonneg h1 hc.1, by omega⟩
set_option maxHeartbeats 400000 in
theorem sum_any (s : ByteArray) (w : World) (hs : s.size ≤ 140737488351232) :
    Calls Tryz.prog 120 #[.string s] w fun e w' => e = .returned (.int .i64 (sumL s.data.toList)) ∧ w' = w := by
  go_enter Tryz.func120, Tryz.ntmps120
  go_wp2
  go_loop [3, 7] (fun n i => ∃ k : Nat, k ≤ s.size ∧ i = .int .i64 k ∧ n = .int .i64 (sumL (s.data.toList.take k))) (fun _ i => s.size - (intOf i).toNat)
  case atStart => exact ⟨0, Nat.zero_le _, rfl, rfl⟩
  case round =>
    obtain ⟨k, hk, rfl, rfl⟩ := hrel
    by_cases hlt : k < s.size
    · have hl : k < s.data.toList.length := by simpa using hlt
      have hst := sum_step s.data.toList k hl
      have hr := sumL_range (s.data.toList.take k)
      have hb := s[k].toNat_lt
      have hm := step_bound (k : Int) (s[k].toNat : Int) (by omega)
      have HS : Hid (sumL (s.data.toList.take (k + 1)) = (sumL (s.data.toList.take k) + ((k : Int) + 1) % 1000003 * (s[k].toNat : Int)) % 1000003) := hst
      clear hst
      go_wp2
      go_round
      case rel => exact ⟨k + 1, by omega, by go_num, by rw [HS.out]⟩
      case measure => simp [intOf]; omega
    · go_wp2
      go_ret
      have e : s.data.toList.take k = s.data.toList := List.take_of_length_le (by rw [Array.length_toList]; show s.size ≤ k; omega)
      exact ⟨by rw [e]; rfl, rfl⟩
end Go.Proofs.YtjeamfoicpgkhaaGreatDoor.SumWalk

/- The reference's Sum. -/
namespace Go.Proofs.YtjeamfoicpgkhaaGreatDoor.SumWalk
open Go.RowKit Go.Proofs.YtjeamfoicpgkhaaGreatDoor.SumMath
set_option linter.unusedVariables false
set_option linter.unusedSimpArgs false
theorem mod_next (k : Int) : (k % 1000003 + 1) % 1000003 = (k + 1) % 1000003 := by omega
set_option maxHeartbeats 400000 in
theorem refsum_any (s : ByteArray) (w : World) (hs : s.size ≤ 140737488351232) :
    Calls Tryz.prog 30 #[.string s] w fun e w' => e = .returned (.int .i64 (sumL s.data.toList)) ∧ w' = w := by
  go_enter Tryz.func30, Tryz.ntmps30
  go_wp2
  go_loop [3, 4] (fun n i => ∃ k : Nat, k ≤ s.size ∧ i = .int .i64 k ∧ n = .int .i64 (sumL (s.data.toList.take k))) (fun _ i => s.size - (intOf i).toNat)
  case atStart => exact ⟨0, Nat.zero_le _, rfl, rfl⟩
  case round =>
    obtain ⟨k, hk, rfl, rfl⟩ := hrel
    by_cases hlt : k < s.size
    · have hl : k < s.data.toList.length := by simpa using hlt
      have hst := sum_step s.data.toList k hl
      have hr := sumL_range (s.data.toList.take k)
      have hb := s[k].toNat_lt
      have hm := step_bound (k : Int) (s[k].toNat : Int) (by omega)
      have hmn := mod_next (k : Int)
      have hm0 : 0 ≤ (k : Int) % 1000003 := Int.emod_nonneg _ (by omega)
      have hm1 : (k : Int) % 1000003 < 1000003 := Int.emod_lt_of_pos _ (by omega)
      have HS : Hid (sumL (s.data.toList.take (k + 1)) = (sumL (s.data.toList.take k) + ((k : Int) + 1) % 1000003 * (s[k].toNat : Int)) % 1000003) := hst
      clear hst hmn
      go_wp2
      go_round
      case rel => exact ⟨k + 1, by omega, by go_num, by rw [HS.out]⟩
      case measure => simp [intOf]; omega
    · go_wp2
      go_ret
      have e : s.data.toList.take k = s.data.toList := List.take_of_length_le (by rw [Array.length_toList]; show s.size ≤ k; omega)
      exact ⟨by rw [e]; rfl, rfl⟩
end Go.Proofs.YtjeamfoicpgkhaaGreatDoor.SumWalk

/- The reference's numerals. -/
namespace Go.Proofs.YtjeamfoicpgkhaaGreatDoor.RefDec
open Go.RowKit Go.Lib Go.Proofs.YtjeamfoicpgkhaaGreatDoor.Mem Go.Proofs.YtjeamfoicpgkhaaGreatDoor.Bytes Go.Proofs.YtjeamfoicpgkhaaGreatDoor.AppSl Go.Proofs.YtjeamfoicpgkhaaGreatDoor.Dec Go.Proofs.YtjeamfoicpgkhaaGreatDoor.Take
set_option linter.unusedVariables false
set_option linter.unusedSimpArgs false
theorem infoU : (Tryz.prog.info? 5).map (fun i => (i.zero, i.size, i.bytes)) = some (some (.int .u8 0), 1, 1) := by kernel_rfl
/-- What is still to be written ahead of l. -/
def J (u : Nat) (l : List UInt8) : List UInt8 := if u = 0 ∧ l ≠ [] then l else decDigits u ++ l
theorem J_start (u : Nat) : J u [] = decDigits u := by simp [J]
theorem J_next (u : Nat) (l : List UInt8) (h : ¬ (u = 0 ∧ l ≠ [])) : J (u / 10) (UInt8.ofNat (48 + u % 10) :: l) = J u l := by
  unfold J
  rw [if_neg h]
  by_cases h10 : u < 10
  · rw [if_pos ⟨by omega, by simp⟩]
    conv => rhs; rw [decDigits, dif_pos h10]
    rw [Nat.mod_eq_of_lt h10]
    rfl
  · rw [if_neg (by omega)]
    conv => rhs; rw [decDigits, dif_neg h10]
    simp
theorem J_end (l : List UInt8) (h : l ≠ []) : J 0 l = l := by simp [J, h]
theorem byte_of (d : Nat) (h : d < 10) : (((UInt8.ofNat (48 + d)).toNat : Nat) : Int) = 48 + (d : Int) := by
  rw [UInt8.toNat_ofNat']
  omega
theorem bytes_news {w : World} {v : Value} {l : List UInt8} {A : Option Addr} {c : Nat} (h : w.ownsRow 0 5 1 v l.length (byteCells l)) (hv : v = .slice A l.length c) :
    (A = none → l.length = 0) ∧ (byteCells l).length = l.length * 1 ∧ ∀ ad, A = some ad → ∀ j u, (byteCells l)[j]? = some u → w.cell? (ad.add j) = some u := by
  subst hv
  refine ⟨fun hA => ?_, by simp [byteCells], fun ad hA j u hu => ?_⟩
  · subst hA
    rcases h.2 with ⟨_, h0⟩ | ⟨g, cap, cur, he, _⟩
    · exact h0
    · cases he
  · subst hA
    rcases h.2 with ⟨he, _⟩ | ⟨g, cap, cur, he, _⟩
    · cases he
    · injection he with he _ _
      injection he with he
      subst he
      exact World.ownsRow.cells h (g := g) rfl j u hu
theorem bytes_one (l : List UInt8) : ∀ u ∈ byteCells l, u.oneCell' = true := by
  intro u hu
  obtain ⟨b, -, rfl⟩ := List.mem_map.1 hu
  rfl
set_option maxHeartbeats 4000000 in
set_option maxRecDepth 100000 in
theorem Decimal_any (n : Nat) (hn : n ≤ 9223372036854775807) (w : World) : Calls Tryz.prog 29 #[.int .i64 (n : Int)] w fun e w' => e = .returned (.string ⟨(decDigits n).toArray⟩) ∧ Step No w w' := by
  have h0 : (0 : Int) ≤ n := by omega
  have h1 : (n : Int) ≤ 9223372036854775807 := by omega
  have HN := Lib.hid hn
  clear hn
  go_enter Tryz.func29, Tryz.ntmps29
  go_wp2
  go_loopw [3, 4] (fun s v wr => ∃ (u : Nat) (l : List UInt8), u ≤ 9223372036854775807 ∧ l.length ≤ 40 ∧ (l.length + nDigits u ≤ 20 ∨ (u = 0 ∧ l.length ≤ 20)) ∧ s = .int .u64 (u : Int) ∧ J u l = decDigits n ∧ wr.ownsRow 0 5 1 v l.length (byteCells l) ∧ Step No w wr) (fun s v _ => (RowKit.intOf s).toNat + (match v with | .slice _ 0 _ => 1 | _ => 0))
  case atStart => exact ⟨n, [], HN.out, by simp, .inl (by have := nDigits_le 19 n (by have := HN.out; omega); simpa using this), rfl, J_start n, World.ownsRow_nil _ _ _ _, Step.refl _ _⟩
  case round =>
    obtain ⟨u, l, hu, hl, hd, rfl, hJ, ho, hs⟩ := hrel
    by_cases hc : u = 0 ∧ l ≠ []
    · obtain ⟨rfl, hl0⟩ := hc
      have hlen : ((l.length : Int) == 0) = false := beq_eq_false_iff_ne.2 (fun e => hl0 (List.eq_nil_of_length_eq_zero (by omega)))
      have hlen2 : (l.length == 0) = false := beq_eq_false_iff_ne.2 (fun e => hl0 (List.eq_nil_of_length_eq_zero e))
      rw [J_end l hl0] at hJ
      obtain ⟨g, c, rfl, -, -⟩ := row_form ho (by have := List.length_pos_iff.2 hl0; omega)
      have HJ := Lib.hid hJ
      have HS := Lib.hid hs
      have hk := bytes_read (P := Tryz.prog) wr g l l.length c rfl (fun k hk => by rw [World.ownsRow.cellAt ho k (by omega)]; simp [byteCells, List.getD_eq_getElem?_getD, List.getElem?_eq_getElem hk]) 59 5 9 Tryz.underlying59 Tryz.underlying5 Tryz.underlying9
      clear hJ ho hs hl0 hd
      go_wp2
      go_ret
      exact ⟨by rw [← HJ.out]; rfl, HS.out⟩
    · have hJ2 := J_next u l hc
      have HJ : Hid (J (u / 10) (UInt8.ofNat (48 + u % 10) :: l) = decDigits n) := Lib.hid (hJ2.trans hJ)
      have HS := Lib.hid hs
      have HO := Lib.hid ho
      have hd2 : (UInt8.ofNat (48 + u % 10) :: l).length + nDigits (u / 10) ≤ 20 ∨ (u / 10 = 0 ∧ (UInt8.ofNat (48 + u % 10) :: l).length ≤ 20) := by
        rw [List.length_cons]
        by_cases h10 : u < 10
        · right
          refine ⟨by omega, ?_⟩
          rcases hd with hd | ⟨h1, h2⟩
          · have := nDigits_pos u; omega
          · have : l = [] := Classical.not_not.1 (fun e => hc ⟨h1, e⟩)
            subst this; simp
        · left
          rcases hd with hd | ⟨h1, h2⟩
          · rw [nDigits_big h10] at hd; omega
          · omega
      have HD := Lib.hid hd2
      obtain ⟨X, hX, HX⟩ : ∃ X : UInt8, 48 + (u : Int) % 10 = ((X.toNat : Nat) : Int) ∧ Hid (UInt8.ofNat (48 + u % 10) = X) := ⟨_, by have := byte_of (u % 10) (Nat.mod_lt _ (by decide)); omega, Lib.hid rfl⟩
      obtain ⟨A, c, rfl, -, -⟩ := row_slice ho
      clear hJ ho hs hd hd2 hJ2
      by_cases hu0 : u = 0
      · have hl0 : l = [] := Classical.not_not.1 (fun e => hc ⟨hu0, e⟩)
        subst hu0 hl0
        clear hc hX
        obtain rfl : X = 48 := by rw [← HX.out]; rfl
        have HR : Hid ((wr.alloc (.cells #[.int .u8 48] 5)).ownsRow 0 5 1 (.slice (some ⟨wr.heap.size, 0, none⟩) 1 1) 1 [.int .u8 48]) := Lib.hid (World.ownsRow_lit wr #[.int .u8 48] 1 (Nat.zero_le _) (by decide) rfl)
        have HB := Lib.hid (bytes_news (HO.out.alloc (.cells #[.int .u8 48] 5)) rfl)
        have HM : Hid (1 + ([] : List UInt8).length ≤ maxLen ∧ (1 + ([] : List UInt8).length) * 1 ≤ 140737488355328) := Lib.hid ⟨by simp only [maxLen, List.length_nil]; omega, by simp only [List.length_nil]; omega⟩
        go_wp2_with (at_builtin; refine list_append_sl _ rfl (.tmp 25) (.tmp 26) 59 5 (.int .u8 0) 1 1 rfl Tryz.underlying59 infoU rfl (Nat.succ_pos 0) (.slice (some ⟨wr.heap.size, 0, none⟩) 1 1) 1 [.int .u8 48] rfl HR.out A ([] : List UInt8).length c (byteCells ([] : List UInt8)) rfl HB.out.1 HB.out.2.1 HB.out.2.2 (bytes_one _) HM.out.1 HM.out.2 ?_; intro v1 w2 hown hg hat; have H1 := Lib.hid hown; have H2 := Lib.hid ((HS.out.alloc _).grown hg (fun k hk hlt => absurd hlt (by have := HS.out.size; simp [Value.ownBlock] at hk; omega))); obtain ⟨A1, c1, rfl, -, -⟩ := row_slice hown; clear hown hg hat)
        go_roundw
        case rel => exact ⟨0, [48], by omega, by simp, HD.out, rfl, HJ.out, H1.out, H2.out⟩
        case measure => simp [RowKit.intOf]
      · have hu1 : decide ((0 : Int) < u) = true := decide_eq_true (by omega)
        have hu2 : (0 : Int) ≤ u := by omega
        have hu3 : (u : Int) ≤ 9223372036854775807 := by omega
        clear hc
        have HR : Hid ((wr.alloc (.cells #[.int .u8 X.toNat] 5)).ownsRow 0 5 1 (.slice (some ⟨wr.heap.size, 0, none⟩) 1 1) 1 [.int .u8 X.toNat]) := Lib.hid (World.ownsRow_lit wr #[.int .u8 X.toNat] 1 (Nat.zero_le _) (by decide) rfl)
        have HB := Lib.hid (bytes_news (HO.out.alloc (.cells #[.int .u8 X.toNat] 5)) rfl)
        have HM : Hid (1 + l.length ≤ maxLen ∧ (1 + l.length) * 1 ≤ 140737488355328) := Lib.hid ⟨by simp only [maxLen]; omega, by omega⟩
        go_wp2_with (at_builtin; refine list_append_sl _ rfl (.tmp 25) (.tmp 26) 59 5 (.int .u8 0) 1 1 rfl Tryz.underlying59 infoU rfl (Nat.succ_pos 0) (.slice (some ⟨wr.heap.size, 0, none⟩) 1 1) 1 [.int .u8 X.toNat] rfl HR.out A l.length c (byteCells l) rfl HB.out.1 HB.out.2.1 HB.out.2.2 (bytes_one _) HM.out.1 HM.out.2 ?_; intro v1 w2 hown hg hat; have H1 := Lib.hid hown; have H2 := Lib.hid ((HS.out.alloc _).grown hg (fun k hk hlt => absurd hlt (by have := HS.out.size; simp [Value.ownBlock] at hk; omega))); obtain ⟨A1, c1, rfl, -, -⟩ := row_slice hown; clear hown hg hat)
        go_roundw
        case rel =>
          refine ⟨u / 10, X :: l, by omega, by rw [List.length_cons]; rcases (HX.out ▸ HD.out) with h | h <;> simp at h ⊢ <;> omega, HX.out ▸ HD.out, by simp, HX.out ▸ HJ.out, ?_, H2.out⟩
          have h := H1.out
          rw [show (X :: l).length = 1 + l.length by simp [Nat.add_comm]]
          exact h
        case measure => simp [RowKit.intOf]; omega
theorem Dec_any (x : Int) (h0 : 0 ≤ x) (h1 : x ≤ 9223372036854775807) (w : World) : Calls Tryz.prog 29 #[.int .i64 x] w fun e w' => e = .returned (.string ⟨(itoa x).toArray⟩) ∧ Step No w w' := by
  obtain ⟨n, rfl⟩ := Int.eq_ofNat_of_zero_le h0
  have : itoa (n : Int) = decDigits n := by unfold itoa; rw [if_neg (by omega)]; rfl
  rw [this]
  exact Decimal_any n (by omega) w
theorem str_app (a b : List UInt8) : (⟨a.toArray⟩ : ByteArray) ++ (⟨b.toArray⟩ : ByteArray) = ⟨(a ++ b).toArray⟩ := by
  apply ByteArray.ext
  rw [ByteArray.data_append]
  simp
theorem str_size (a : List UInt8) : (⟨a.toArray⟩ : ByteArray).size = a.length := by
  show a.toArray.size = _
  simp
theorem str_data (s : ByteArray) : (⟨s.data.toList.toArray⟩ : ByteArray) = s := rfl
theorem itoa_short {x : Int} (h0 : 0 ≤ x) (h1 : x ≤ 9223372036854775807) : (itoa x).length ≤ 21 := itoa_length_le x (by omega) h1
set_option maxRecDepth 100000 in
theorem num_ref (x : Int) (h0 : 0 ≤ x) (h1 : x ≤ 9223372036854775807) (w : World) : Calls Tryz.prog 42 #[.int .i64 x] w fun e w' => e = .returned (.string ⟨(num x).toArray⟩) ∧ Step No w w' := by
  obtain ⟨S, hS, hz⟩ : ∃ S : ByteArray, Hid ((⟨(itoa x).toArray⟩ : ByteArray) = S) ∧ S.size ≤ 21 := ⟨_, Lib.hid rfl, by rw [str_size]; exact itoa_short h0 h1⟩
  have HE : Hid (S ++ ⟨#[44]⟩ = ⟨(num x).toArray⟩) := Lib.hid (by rw [← hS.out]; exact str_app _ [44])
  have H0 := Lib.hid h0
  have H1 := Lib.hid h1
  clear h0 h1
  go_enter Tryz.func42, Tryz.ntmps42
  go_wp2_with fail
  refine (Dec_any x H0.out H1.out _).mono ?_
  rintro e w' ⟨rfl, hs⟩
  rw [hS.out]
  have HS := Lib.hid hs
  clear hs
  go_wp2
  go_ret
  exact ⟨by rw [← HE.out]; rfl, HS.out⟩
set_option maxRecDepth 100000 in
theorem str_ref (s : ByteArray) (hs : s.size ≤ 140737488355328) (w : World) : Calls Tryz.prog 45 #[.string s] w fun e w' => e = .returned (.string ⟨(str s.data.toList).toArray⟩) ∧ Step No w w' := by
  have hl : s.data.toList.length = s.size := Array.length_toList
  obtain ⟨x, hx, hx0, hx1⟩ : ∃ x : Int, (s.size : Int) = x ∧ 0 ≤ x ∧ x ≤ 140737488355328 := ⟨_, rfl, by omega, by omega⟩
  obtain ⟨S, hS, hz⟩ : ∃ S : ByteArray, Hid ((⟨(itoa x).toArray⟩ : ByteArray) = S) ∧ S.size ≤ 21 := ⟨_, Lib.hid rfl, by rw [str_size]; exact itoa_short hx0 (by omega)⟩
  have HE : Hid (S ++ ⟨#[58]⟩ ++ s = ⟨(str s.data.toList).toArray⟩) := Lib.hid (by
    rw [← hS.out, str_app _ [58]]
    conv => lhs; rw [← str_data s]
    rw [str_app]
    simp [str, hl, hx])
  have h1 : S.size + 1 ≤ 9223372036854775807 := by omega
  have h2 : (S ++ ⟨#[58]⟩).size + s.size ≤ 9223372036854775807 := by rw [ByteArray.size_append]; show S.size + 1 + s.size ≤ _; omega
  have h3 : S.size + 1 + s.size ≤ 9223372036854775807 := by omega
  have H0 := Lib.hid hx0
  have H1 := Lib.hid hx1
  clear hx0 hx1 hl
  go_enter Tryz.func45, Tryz.ntmps45
  go_wp2_with fail
  refine (Dec_any x H0.out (by have := H1.out; omega) _).mono ?_
  rintro e w' ⟨rfl, hs⟩
  rw [hS.out]
  have HS := Lib.hid hs
  clear hs hx
  go_wp2
  go_ret
  exact ⟨by rw [← HE.out]; rfl, HS.out⟩
end Go.Proofs.YtjeamfoicpgkhaaGreatDoor.RefDec
