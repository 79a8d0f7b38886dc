/- Chapter 14, calls: Due. -/
import Derived.Test.YthcnoamgkkbkcaaCaA
import Derived.Test.YthcnoamgkkbkcaaApd
import Derived.Deep.CutBlock
namespace Go.Proofs.Ythcnoamgkkbkcaa
open Go.RowKit

/-- While what is due is gone through: the timers that stand, those that were taken out and not yet seen. -/
structure CD (S : CS) (x rest : List Tm) : Prop where
  ids : S.L.Pairwise fun a b => a.id < b.id
  rng : ∀ k ∈ S.L, 0 ≤ k.id ∧ k.id < S.next
  sent : ∀ k ∈ S.L, k.sent ≤ 8
  st : ∀ k ∈ S.L, k.st = 1 ∨ k.st = 2 ∨ k.st = 3
  rep : ∀ k ∈ S.L, k.st = 1 → k.rep = ByteArray.empty
  nxt : 0 ≤ S.next ∧ S.next ≤ 2147483647
  per : (x ++ rest).Perm (tms S.L)
  tok : TOk x
  few : x.length + rest.length ≤ 64
theorem COk.cd {S : CS} {x : List Tm} (h : COk S x) (now : Int) : CD S (tDue x now).1 (x.filter fun t => decide (t.at_ ≤ now)) := by
  have e : (tDue x now).1 = x.filter fun t => !decide (t.at_ ≤ now) := by
    unfold tDue
    refine List.filter_congr fun t _ => ?_
    by_cases ht : t.at_ ≤ now
    · have : ¬ now < t.at_ := by omega
      simp [ht, this]
    · have : now < t.at_ := by omega
      simp [ht, this]
  have hp : ((tDue x now).1 ++ x.filter fun t => decide (t.at_ ≤ now)).Perm x := by
    rw [e]
    exact List.perm_append_comm.trans (List.filter_append_perm _ x)
  refine ⟨h.ids, h.rng, h.sent, h.st, h.rep, h.nxt, hp.trans h.per, h.tok.due now, ?_⟩
  have := hp.length_eq
  rw [List.length_append] at this
  have := h.tok.few
  omega
theorem CD.done {S : CS} {x : List Tm} (h : CD S x []) : COk S x := ⟨h.ids, h.rng, h.sent, h.st, h.rep, h.nxt, by have := h.per; rwa [List.append_nil] at this, h.tok⟩
theorem asc_nodup {L : List Ck} (h : L.Pairwise fun a b => a.id < b.id) : ((tms L).map (·.id)).Nodup := by
  rw [tms_ids]
  unfold opens
  have h1 : (L.filter Ck.opn).Pairwise fun a b => a.id < b.id := h.filter _
  unfold List.Nodup
  rw [List.pairwise_map]
  exact h1.imp fun hab => by omega
theorem dueG_id (now : Int) (k : Ck) : (dueG now k).id = k.id := by unfold dueG; split <;> rfl
theorem dueG_sent (now : Int) {k : Ck} (h : k.sent ≤ 8) : (dueG now k).sent ≤ 8 := by
  unfold dueG
  split
  · exact h
  · simp only
    omega
theorem CD.one {S : CS} {x rest : List Tm} {d : Tm} {now : Int} (h : CD S x (d :: rest)) (hnow : ¬ badN now) : ∃ k, fnd S.L d.id = some k ∧ k ∈ S.L ∧ k.id = d.id ∧ k.st = 1 ∧
    (8 ≤ k.sent → CD ⟨S.me, S.next, upd S.L d.id (dueG now)⟩ x rest) ∧
    (¬ 8 ≤ k.sent → tSet x d.id (now + wt k.sent) = (tIns x ⟨d.id, now + wt k.sent⟩, 0) ∧ CD ⟨S.me, S.next, upd S.L d.id (dueG now)⟩ (tIns x ⟨d.id, now + wt k.sent⟩) rest) := by
  obtain ⟨k, hk, hst, hktm⟩ := tms_mem.1 (h.per.mem_iff.1 (by simp : d ∈ x ++ d :: rest))
  have hid : k.id = d.id := by rw [← hktm]; rfl
  refine ⟨k, by rw [← hid]; exact fnd_of h.ids hk, hk, hid, hst, ?_⟩
  obtain ⟨u1, u2⟩ := upd_tms (g := dueG now) h.ids hk hst
  rw [hktm] at u2
  rw [hid] at u1 u2
  have hp : (x ++ rest).Perm (tStop (tms S.L) d.id) := List.Perm.cons_inv (a := d) ((List.perm_middle.symm.trans h.per).trans u2)
  have hnd : ((x ++ d :: rest).map (·.id)).Nodup := perm_ids h.per.symm (asc_nodup h.ids)
  have hno : ∀ y ∈ x, y.id ≠ d.id := fun y hy e => by
    rw [List.map_append, List.nodup_append] at hnd
    exact hnd.2.2 y.id (List.mem_map.2 ⟨y, hy, rfl⟩) d.id (by simp) e
  have hw := wt_rng k.sent
  have hkr := h.rng k hk
  have hks := h.sent k hk
  have hnow2 : 0 ≤ now ∧ now ≤ 1099511626776 := by unfold badN at hnow; omega
  have hfw := h.few
  rw [List.length_cons] at hfw
  have base : ∀ x', (x' ++ rest).Perm (tms (upd S.L d.id (dueG now))) → TOk x' → x'.length + rest.length ≤ 64 → CD ⟨S.me, S.next, upd S.L d.id (dueG now)⟩ x' rest := fun x' hper htok hf => by
    refine ⟨upd_ids (dueG_id now) h.ids, fun m hm => ?_, fun m hm => ?_, fun m hm => ?_, fun m hm e => ?_, h.nxt, hper, htok, hf⟩
    · rcases upd_mem hm with ⟨j, hj, _, rfl⟩ | ⟨hm, _⟩
      · rw [dueG_id]
        exact h.rng j hj
      · exact h.rng m hm
    · rcases upd_mem hm with ⟨j, hj, _, rfl⟩ | ⟨hm, _⟩
      · exact dueG_sent now (h.sent j hj)
      · exact h.sent m hm
    · rcases upd_mem hm with ⟨j, hj, _, rfl⟩ | ⟨hm, _⟩
      · unfold dueG
        split
        · exact .inr (.inr rfl)
        · exact h.st j hj
      · exact h.st m hm
    · rcases upd_mem hm with ⟨j, hj, _, rfl⟩ | ⟨hm, _⟩
      · unfold dueG at e ⊢
        split at e
        · simp at e
        · rename_i hh
          rw [if_neg hh]
          exact h.rep j hj e
      · exact h.rep m hm e
  constructor
  · intro h8
    have e1 : (dueG now k).st = 3 := by unfold dueG; rw [if_pos h8]
    rw [if_neg (by rw [e1]; decide), List.nil_append] at u1
    exact base x (hp.trans u1.symm) h.tok (by omega)
  · intro h8
    have e1 : (dueG now k).st = 1 ∧ (dueG now k).tm = ⟨d.id, now + wt k.sent⟩ := by
      unfold dueG
      rw [if_neg h8]
      exact ⟨hst, by rw [← hid]; rfl⟩
    rw [if_pos e1.1, e1.2] at u1
    have hnb : ¬ badT d.id (now + wt k.sent) := by unfold badT; rw [← hid]; omega
    have hts : tStop x d.id = x := tStop_none hno
    refine ⟨?_, base _ ?_ ?_ ?_⟩
    · unfold tSet
      rw [if_neg hnb, hts, if_neg (by omega)]
    · refine ((tIns_perm x ⟨d.id, now + wt k.sent⟩).append_right rest).trans ?_
      exact (List.Perm.cons _ hp).trans u1.symm
    · exact h.tok.ins hno (by omega) ⟨by rw [← hid]; exact hkr.1, by simp only; omega⟩
    · have := (tIns_perm x ⟨d.id, now + wt k.sent⟩).length_eq
      rw [List.length_cons] at this
      omega
theorem cRun_succ (me now : Int) {D : List Int} {i : Nat} (h : i < D.length) (L : List Ck) : cRun me now (D.take (i + 1)) L = cOne me now (cRun me now (D.take i) L) D[i] := by
  unfold cRun
  rw [List.take_add_one, List.getElem?_eq_getElem h, List.foldl_append]
  rfl
theorem cdue_nil (now : Int) (w : World) : Calls Try.prog 20 #[.pointer none, .int .i64 now] w fun e w' => e = .returned (.slice none 0 0) ∧ w = w' := by
  go_enter Try.func20, Try.ntmps20
  go_wp2
  go_ret
  exact ⟨rfl, rfl⟩
theorem cdue_bad {g : Nat} {now : Int} (h : badN now) (w : World) : Calls Try.prog 20 #[.pointer (some ⟨g, 0, none⟩), .int .i64 now] w fun e w' => e = .returned (.slice none 0 0) ∧ w = w' := by
  have HMO := hide (moment_no h w)
  go_enter Try.func20, Try.ntmps20
  go_wp2_with fail
  refine HMO.out.mono ?_
  rintro e w1 ⟨rfl, rfl⟩
  go_wp2
  go_ret
  exact ⟨rfl, rfl⟩
/-- Behind i of those that are due. -/
def DuS (w0 : World) (B g t p c cm : Nat) (S : CS) (X : List Tm) (now : Int) (dv : Value) (n : Nat) (wr : World) (ov iv : Value) : Prop :=
  ∃ (i : Nat) (x : List Tm), iv = .int .i64 (i : Int) ∧ i ≤ n ∧ CD ⟨S.me, S.next, (cRun S.me now ((X.map (·.id)).take i) S.L).1⟩ x (X.drop i) ∧ (∃ v f, CV wr B g t p c cm v ⟨S.me, S.next, (cRun S.me now ((X.map (·.id)).take i) S.L).1⟩ x f) ∧
    kM.row wr w0.heap.size ov (cRun S.me now ((X.map (·.id)).take i) S.L).2 ∧ (cRun S.me now ((X.map (·.id)).take i) S.L).2.length ≤ i ∧ kI.row wr w0.heap.size dv (X.map (·.id)) ∧ Below B w0 wr ∧ Kp w0 wr
/-- Rows of other kinds stay. -/
theorem row_kp {α : Type} {K : EK Try.prog α} {w w' : World} {B B' : Nat} {u : Value} {l : List α} (h : K.row w B u l) (hb : Below B' w w') (hk : Kp w w') (h1 : K.e ≠ 153) (h2 : K.e ≠ 149) (h3 : K.e ≠ 101) (h4 : K.e ≠ 93) : K.row w' B u l := by
  refine EK.row_fr (F := fun k => w'.heap[k]? ≠ w.heap[k]?) h ⟨hb.os, hb.tape, hb.output, hb.size, fun k _ hn => Classical.not_not.1 hn⟩ (fun k e hn => hn ?_)
  obtain ⟨-, -, cs, h7⟩ := EK.row_typed h e
  rw [h7, hk k cs K.e h7 h1 h2 h3 h4]
/-- A call's block: how often it was sent, the next wait. -/
theorem dueG_cells (now : Int) {k : Ck} (h : ¬ 8 ≤ k.sent) : ckC (dueG now k) = #[.int .i64 k.dst, .int .i64 ((k.sent : Int) + 1), .int .i64 (wt (k.sent + 1)), .string k.body, .int .i64 k.st, .string k.rep] := by
  unfold dueG ckC
  rw [if_neg h]
  simp
theorem dueG_cells8 (now : Int) {k : Ck} (h : 8 ≤ k.sent) : ckC (dueG now k) = #[.int .i64 k.dst, .int .i64 k.sent, .int .i64 (wt k.sent), .string k.body, .int .i64 3, .string k.rep] := by
  unfold dueG ckC
  rw [if_pos h]
/-- While a call's two numbers are stored. -/
structure Du2 (w0 : World) (b : Nat) (k : Ck) (d15 d18 : Bool) (w : World) : Prop where
  o : w.heap[b]? = some (.cells #[.int .i64 k.dst, .int .i64 (if d15 = true then (k.sent : Int) + 1 else k.sent), .int .i64 (if d18 = true then wt (k.sent + 1) else wt k.sent), .string k.body, .int .i64 k.st, .string k.rep] 101 (0, 0))
  f : Fr (fun j => j = b) w0 w
section
variable {w0 w : World} {b : Nat} {k : Ck} {d15 d18 : Bool}
theorem Du2.s15 (h : Du2 w0 b k d15 d18 w) : Du2 w0 b k true d18 (w.setCell ⟨b, 1, none⟩ (.int .i64 ((k.sent : Int) + 1))) := by
  refine ⟨?_, h.f.setCell (fun _ => rfl) _⟩
  have := obj_set h.o 1 (.int .i64 ((k.sent : Int) + 1))
  exact this
theorem Du2.s18 (h : Du2 w0 b k d15 d18 w) : Du2 w0 b k d15 true (w.setCell ⟨b, 2, none⟩ (.int .i64 (wt (k.sent + 1)))) := by
  refine ⟨?_, h.f.setCell (fun _ => rfl) _⟩
  have := obj_set h.o 2 (.int .i64 (wt (k.sent + 1)))
  exact this
end
/-- Blocks of other kinds were turned. -/
theorem CV.fr {w w' : World} {B g t p c cm : Nat} {v : Value} {S : CS} {x : List Tm} {f : Int → Option Nat} (h : CV w B g t p c cm v S x f) {F : Nat → Prop} (hf : Fr F w w')
    (hF : ∀ j, F j → ∃ cs ty, w.heap[j]? = some (.cells cs ty (0, 0)) ∧ ty ≠ 153 ∧ ty ≠ 149 ∧ ty ≠ 151 ∧ ty ≠ 101 ∧ ty ≠ 93) : CV w' B g t p c cm v S x f := by
  have no : ∀ {q : Nat} {cs : Array Value} {ty : TypeId}, w.heap[q]? = some (.cells cs ty (0, 0)) → (ty = 153 ∨ ty = 149 ∨ ty = 151 ∨ ty = 101 ∨ ty = 93) → ¬ F q := fun ho ht hq => by
    obtain ⟨cs', ty', h1, h2⟩ := hF _ hq
    rw [ho] at h1
    simp only [Option.some.injEq, Obj.cells.injEq] at h1
    rw [← h1.2.1] at h2
    rcases ht with e | e | e | e | e
    · exact h2.1 e
    · exact h2.2.1 e
    · exact h2.2.2.1 e
    · exact h2.2.2.2.1 e
    · exact h2.2.2.2.2 e
  have nom : ∀ {q : Nat} {es : Array MapEntry} {k : Nat}, w.heap[q]? = some (.map es k) → ¬ F q := fun ho hq => by
    obtain ⟨cs', ty', h1, h2⟩ := hF _ hq
    rw [ho] at h1
    cases h1
  obtain ⟨es, k, hm⟩ := MK.mp_obj h.mp
  obtain ⟨o1, ⟨l, ⟨fa, hp, ha⟩, hh, hpm⟩, hB⟩ := h.tx
  obtain ⟨es2, k2, hm2⟩ := MK.mp_obj hp.2.2
  refine ⟨hf.obj h.o (no h.o (by decide)), ⟨hf.obj o1 (no o1 (by decide)), ⟨l, ⟨fa, ⟨hf.obj hp.1 (no hp.1 (by decide)), EK.row_fr hp.2.1 hf (fun q hq => ?_), MK.mp_fr hp.2.2 hf (nom hm2)⟩, ha⟩, hh, hpm⟩, hB⟩, MK.mp_fr h.mp hf (nom hm), ⟨h.cf.no, fun id b e => ?_, h.cf.inj⟩, h.ne, h.bg⟩
  · obtain ⟨-, -, cs, h7⟩ := EK.row_typed hp.2.1 hq
    exact no h7 (.inl rfl)
  · obtain ⟨g1, m, g2, g3, g4⟩ := h.cf.yes id b e
    exact ⟨g1, m, g2, g3, hf.obj g4 (no g4 (by decide))⟩
theorem Kp.fr {w0 w w' : World} (h : Kp w0 w) {F : Nat → Prop} (hf : Fr F w w') (hF : ∀ j, F j → w0.heap.size ≤ j) : Kp w0 w' := fun q cs ty h0 h1 h2 h3 h4 => hf.obj (h q cs ty h0 h1 h2 h3 h4) (fun e => by have := hF q e; have := obj_lt h0; omega)
def duA (g b n i : Nat) (now id : Int) (dv : Value) (u x : Nat → Value) : Act := ⟨#[.pointer (some ⟨g, 0, none⟩), .int .i64 now, u 2, u 3, u 4, x 17, u 6, .int .i64 id, .pointer (some ⟨b, 0, none⟩), u 9, u 10, u 11, u 12, u 13, u 14, u 15, u 16, u 17, u 18, u 19, u 20, dv, .int .i64 (n : Int), .int .i64 (i : Int), u 24, u 25, u 26, u 27, u 28, u 29, u 30, u 31, u 32, u 33, u 34, u 35, u 36, u 37, u 38, u 39, u 40, u 41, x 0, x 1, x 2, x 3, x 4, x 5, x 6, x 7, x 8, x 9, x 10, x 11, x 12, x 13, x 14, x 15, x 16, u 59, u 60, u 61, u 62, u 63, u 64, u 65, u 66, u 67, u 68, u 69, u 70, u 71, u 72, u 73, u 74, u 75, u 76, u 77, u 78, u 79, u 80, u 81, u 82, u 83, u 84, u 85, u 86, u 87, u 88, u 89], []⟩
def duV (g b : Nat) (me dst id : Int) (body : ByteArray) (ou : Value) (qx : Nat) (qw : Value) : Prop :=
  match qx with
  | 0 => qw = ou
  | 1 => qw = .pointer (some ⟨g, 0, none⟩)
  | 2 => qw = .pointer (some ⟨g, 0, none⟩)
  | 3 => qw = .pointer (some ⟨g, 0, none⟩)
  | 4 => qw = .int .i64 me
  | 5 => qw = .pointer (some ⟨b, 0, none⟩)
  | 6 => qw = .pointer (some ⟨b, 0, none⟩)
  | 7 => qw = .pointer (some ⟨b, 0, none⟩)
  | 8 => qw = .int .i64 dst
  | 9 => qw = .int .i64 id
  | 10 => qw = .pointer (some ⟨b, 0, none⟩)
  | 11 => qw = .pointer (some ⟨b, 0, none⟩)
  | 12 => qw = .pointer (some ⟨b, 3, none⟩)
  | 13 => qw = .string body
  | 14 => qw = .agg #[.int .i64 1, .int .i64 me, .int .i64 dst, .int .i64 id, .string body]
  | _ => True
def dwA (g b n i : Nat) (now : Int) (vo dv : Value) (u x : Nat → Value) : Act := ⟨#[.pointer (some ⟨g, 0, none⟩), .int .i64 now, u 2, u 3, u 4, vo, u 6, u 7, .pointer (some ⟨b, 0, none⟩), u 9, u 10, u 11, u 12, u 13, u 14, u 15, u 16, u 17, u 18, u 19, u 20, dv, .int .i64 (n : Int), .int .i64 (i : Int), u 24, u 25, u 26, u 27, u 28, u 29, u 30, u 31, u 32, u 33, u 34, u 35, u 36, u 37, u 38, u 39, u 40, u 41, u 42, u 43, u 44, u 45, u 46, u 47, u 48, u 49, u 50, u 51, u 52, u 53, u 54, u 55, u 56, u 57, u 58, u 59, u 60, u 61, u 62, u 63, u 64, u 65, u 66, u 67, u 68, u 69, u 70, x 0, x 1, x 2, x 3, x 4, x 5, x 6, x 7, x 8, x 9, x 10, x 11, x 12, x 13, x 14, x 16, x 17, u 88, u 89], []⟩
def dwV (b sn : Nat) (w1 w2 : Int) (qx : Nat) (qw : Value) : Prop :=
  match qx with
  | 0 => qw = .pointer (some ⟨b, 0, none⟩)
  | 1 => qw = .pointer (some ⟨b, 0, none⟩)
  | 2 => qw = .pointer (some ⟨b, 0, none⟩)
  | 3 => qw = .pointer (some ⟨b, 0, none⟩)
  | 4 => qw = .pointer (some ⟨b, 1, none⟩)
  | 5 => qw = .int .i64 (sn : Int)
  | 6 => qw = .int .i64 ((sn : Int) + 1)
  | 7 => qw = .pointer (some ⟨b, 0, none⟩)
  | 8 => qw = .pointer (some ⟨b, 0, none⟩)
  | 9 => qw = .pointer (some ⟨b, 2, none⟩)
  | 10 => qw = .int .i64 w1
  | 11 => qw = .int .i64 (2 * w1)
  | 12 => qw = .int .i64 w2
  | 13 => qw = .pointer (some ⟨b, 0, none⟩)
  | 14 => qw = .pointer (some ⟨b, 1, none⟩)
  | 16 => qw = .pointer (some ⟨b, 0, none⟩)
  | 17 => qw = .pointer (some ⟨b, 2, none⟩)
  | _ => True
set_option maxHeartbeats 16000000 in
set_option maxRecDepth 100000 in
theorem cdue_any {w : World} {B g t p c cm : Nat} {v : Value} {S : CS} {x : List Tm} {f : Int → Option Nat} (h : CV w B g t p c cm v S x f) (hk : COk S x) (now : Int) :
    Calls Try.prog 20 #[.pointer (some ⟨g, 0, none⟩), .int .i64 now] w fun e w' => ∃ ov, e = .returned ov ∧ kM.row w' w.heap.size ov (cDue S x now).2 ∧ ∃ x', CA w B g t p c cm (cDue S x now).1 x' w' := by
  unfold cDue
  by_cases hb : badN now
  · rw [if_pos hb]
    refine (cdue_bad hb w).mono ?_
    rintro e w' ⟨rfl, rfl⟩
    exact ⟨_, rfl, EK.row_nil _ _, x, h.self hk⟩
  rw [if_neg hb]
  have HMO := hide (moment_ok hb w)
  have HDU := hide (tdue_any h.tx hk.tok now)
  obtain ⟨X, hX⟩ : ∃ X, X = x.filter fun t => decide (t.at_ ≤ now) := ⟨_, rfl⟩
  have hD : (tDue x now).2 = X.map (·.id) := by rw [hX]; rfl
  rw [hD]
  have HCD := hide (show CD S (tDue x now).1 X from by rw [hX]; exact hk.cd now)
  have HNB := hide hb
  have HV := hide h
  have HD := hide hD
  have z3 := obj_cell h.o 3
  simp only [cC, List.getElem?_toArray, List.getElem?_cons_zero, List.getElem?_cons_succ] at z3
  have HSZ := hide h.bsz
  clear h hk hb hX hD
  go_enter Try.func20, Try.ntmps20
  go_wp2_with fail
  refine HMO.out.mono ?_
  rintro e w1 ⟨rfl, rfl⟩
  go_wp2_with fail
  refine HDU.out.mono ?_
  rintro e w1 ⟨dv, rfl, hdq⟩
  obtain ⟨⟨v1, hv1⟩, hb1, hk1, hrow⟩ := HV.out.due hdq
  rw [HD.out] at hrow
  obtain ⟨A, cap, rfl⟩ := EK.row_slice hrow
  obtain ⟨n, hn⟩ : ∃ n, n = X.length := ⟨_, rfl⟩
  rw [List.length_map, ← hn] at hrow ⊢
  have HN := hide (show n = X.length ∧ n ≤ 64 from ⟨hn, by have := HCD.out.few; omega⟩)
  have hn64 : (n : Int) ≤ 64 := by have := HN.out.2; omega
  have HS := hide (show DuS w B g t p c cm S X now (.slice A n cap) n w1 (.slice none 0 0) (.int .i64 0) from ⟨0, (tDue x now).1, rfl, Nat.zero_le _, HCD.out, ⟨v1, f, hv1⟩, EK.row_nil _ _, Nat.zero_le _, hrow, hb1, hk1⟩)
  clear hdq hv1 hb1 hk1 hrow hn z3
  go_wp2_with fail
  go_loopw [5, 23] (fun ov iv wr => DuS w B g t p c cm S X now (.slice A n cap) n wr ov iv) (fun _ iv _ => n - (intOf iv).toNat)
  case atStart => exact HS.out
  case round =>
    obtain ⟨i, x1, rfl, hi, hcd, ⟨v2, f2, hcv⟩, hmr, hml, hdr, hbb, hkp⟩ := hrel
    rcases Nat.lt_or_ge i n with hin | hin
    · have hiX : i < X.length := by have := HN.out.1; omega
      obtain ⟨P1, hP⟩ : ∃ P1, P1 = cRun S.me now ((X.map (·.id)).take i) S.L := ⟨_, rfl⟩
      rw [← hP] at hcd hcv hmr hml
      have hnext : cRun S.me now ((X.map (·.id)).take (i + 1)) S.L = cOne S.me now P1 X[i].id := by
        rw [cRun_succ S.me now (by simpa using hiX), ← hP, List.getElem_map]
      obtain ⟨L1, M1⟩ := P1
      simp only at hcd hcv hmr hml
      obtain ⟨d, hd⟩ : ∃ d, d = X[i] := ⟨_, rfl⟩
      rw [List.drop_eq_getElem_cons hiX, ← hd] at hcd
      rw [← hd] at hnext
      obtain ⟨k, hfk, hkL, hkid, hkst, hA, hB⟩ := hcd.one HNB.out
      simp only at hfk hkL
      have hfd := hcv.find hcd.ids d.id
      simp only at hfd
      rw [hfk] at hfd
      simp only at hfd
      obtain ⟨b, hfb, hbo⟩ := hfd
      have hnx2 : cOne S.me now (L1, M1) d.id = (upd L1 d.id (dueG now), M1 ++ dueM S.me k) := by
        unfold cOne
        rw [hfk]
      rw [hnx2] at hnext
      -- what is read
      obtain ⟨r, cap', e1, hz1, hz2, -, -, hcell⟩ := EK.row_cells hdr (k := i) (by simpa using hiX)
      rw [List.length_map, ← HN.out.1] at e1 hz1
      injection e1 with e1a e1b e1c
      subst e1a e1c
      simp only [maxLen] at hz2
      have q0 := hcell 0 (by decide)
      simp only [kI, List.getElem?_cons_zero, Nat.add_zero, Nat.mul_one, List.getElem_map, ← hd] at q0
      have hlk : (Instr.lookup 89 (.map (some cm)) (.int .i64 d.id) false).run Try.prog wr = .ok (.pointer (some ⟨b, 0, none⟩)) wr := by
        have := MK.run_look hcv.mp d.id
        rw [hfb] at this
        exact this
      have z2 := obj_cell hcv.o 2
      have k1 := obj_cell hbo 1
      simp only [cC, ckC, List.getElem?_toArray, List.getElem?_cons_zero, List.getElem?_cons_succ] at z2 k1
      have hini : (i : Int) < (n : Int) := by omega
      have HCD := hide hcd
      have HCV := hide hcv
      have HMR := hide hmr
      have HML := hide hml
      have HDR := hide hdr
      have HBB := hide hbb
      have HKP := hide hkp
      have HBO := hide hbo
      have HFB := hide hfb
      have HKL := hide (show k ∈ L1 ∧ k.id = d.id from ⟨hkL, hkid⟩)
      have HNEXT := hide hnext
      obtain ⟨id, hid⟩ : ∃ j, j = d.id := ⟨_, rfl⟩
      rw [← hid] at q0 hlk hnext
      have HID := hide hid
      by_cases h8 : 8 ≤ k.sent
      · have h8i : (8 : Int) ≤ (k.sent : Int) := by omega
        have hf := (Fr.refl (fun j => j = b) wr).setCell (p := ⟨b, 4, none⟩) (fun _ => rfl) (.int .i64 3)
        have ho := obj_set hbo 4 (.int .i64 3)
        have ho2 : (wr.setCell ⟨b, 4, none⟩ (.int .i64 3)).heap[b]? = some (.cells (ckC (dueG now k)) 101 (0, 0)) := by
          rw [dueG_cells8 now h8]
          exact ho
        obtain ⟨a1, a2, a3⟩ := hcv.turn hcd.ids hfb hkL hkid (gg := dueG now) (dueG_id now) hf ho2
        have HRES := hide (show DuS w B g t p c cm S X now (.slice (some ⟨r, 0, none⟩) n cap) n (wr.setCell ⟨b, 4, none⟩ (.int .i64 3)) u5 (.int .i64 ((i : Int) + 1)) from by
          have e9 : dueM S.me k = [] := by unfold dueM; rw [if_pos h8]
          refine ⟨i + 1, x1, rfl, hin, ?_, ⟨v2, f2, ?_⟩, ?_, ?_, row_kp hdr a2 a3 (by decide) (by decide) (by decide) (by decide), hbb.trans a2, hkp.trans a3⟩
          · rw [HNEXT.out]
            exact hA h8
          · rw [HNEXT.out]
            exact a1
          · rw [HNEXT.out, e9, List.append_nil]
            exact row_kp hmr a2 a3 (by decide) (by decide) (by decide) (by decide)
          · rw [HNEXT.out, e9, List.append_nil]
            exact Nat.le_succ_of_le hml)
        have t4 := obj_frozen hbo 4
        have k4 := obj_cell hbo 4
        simp only [ckC, List.getElem?_toArray, List.getElem?_cons_zero, List.getElem?_cons_succ] at k4
        clear hcd hcv hmr hml hdr hbb hkp hfk hkL hkid hkst hA hB hfb hbo hnx2 hnext hd hcell hf ho ho2 a1 a2 a3 hid h8 hP e1b
        go_wp2_with fail
        exact ⟨HRES.out, by simp only [intOf]; omega⟩
      · have HH8 := hide h8
        have hw := wt_rng k.sent
        obtain ⟨sn, hsn⟩ : ∃ n, n = k.sent := ⟨_, rfl⟩
        obtain ⟨w1, hw1⟩ : ∃ n, n = wt sn := ⟨_, rfl⟩
        obtain ⟨w2, hw2⟩ : ∃ n, n = wt (sn + 1) := ⟨_, rfl⟩
        have HKV := hide (show k.sent = sn ∧ wt sn = w1 ∧ wt (sn + 1) = w2 from ⟨hsn.symm, hw1.symm, hw2.symm⟩)
        rw [← hsn] at hw k1
        rw [← hw1] at hw
        have hks := hcd.sent k hkL
        have h8i : ¬ (8 : Int) ≤ (sn : Int) := by omega
        have hnow2 := HNB.out
        unfold badN at hnow2
        obtain ⟨hts, hcd2⟩ := hB h8
        rw [← hsn, ← hw1, ← hid] at hts hcd2
        have hmlen : M1.length ≤ 65536 := by have := HN.out.2; omega
        obtain ⟨me, hme⟩ : ∃ m, m = S.me := ⟨_, rfl⟩
        obtain ⟨dst, hdst⟩ : ∃ m, m = k.dst := ⟨_, rfl⟩
        obtain ⟨body, hbody⟩ : ∃ m, m = k.body := ⟨_, rfl⟩
        have HMK := hide (show S.me = me ∧ k.dst = dst ∧ k.body = body from ⟨hme.symm, hdst.symm, hbody.symm⟩)
        have HML2 := hide hmlen
        have HSZW := hide hbb.size
        have HA0 := hide (fun xb xa => show ApS kM wr w.heap.size u5 M1 ⟨1, me, dst, id, body⟩ false false xb xa wr.drew from ApS.start _ _ (Below.refl _ _).drew)
        -- behind the append
        have hS4 : ∀ vb v4 w4, ApS kM wr w.heap.size u5 M1 ⟨1, me, dst, id, body⟩ true true vb v4 w4 → CV w4 B g t p c cm v2 ⟨S.me, S.next, L1⟩ x1 f2 ∧ kM.row w4 w.heap.size v4 (M1 ++ dueM S.me k) ∧ kI.row w4 w.heap.size (.slice (some ⟨r, 0, none⟩) n cap) (X.map (·.id)) ∧ Below B w w4 ∧ Kp w w4 := fun vb v4 w4 ha => by
          obtain ⟨b1, b2, -⟩ := ha.f rfl
          have hmr := HMR.out
          have hdr := HDR.out
          have hbb := HBB.out
          have hBw := HSZ.out
          have hsw := hbb.size
          have hF4 : ∀ j, u5.ownBlock = some j → w.heap.size ≤ j ∧ ∃ cs, wr.heap[j]? = some (.cells cs 32 (0, 0)) := fun j e => by
            obtain ⟨a1, a2, a3⟩ := EK.row_typed hmr e
            exact ⟨a1, a3⟩
          have e9 : dueM S.me k = [⟨1, me, dst, id, body⟩] := by
            unfold dueM
            rw [if_neg HH8.out, HKL.out.2, HID.out, HMK.out.1, HMK.out.2.1, HMK.out.2.2]
          rw [e9]
          refine ⟨HCV.out.fr b2 (fun j e => ?_), b1, EK.row_fr hdr b2 (fun q hq e => ?_), hbb.trans (b2.below B (by omega) (fun j hj e => by have := (hF4 j e).1; omega)), HKP.out.fr b2 (fun j e => (hF4 j e).1)⟩
          · obtain ⟨_, cs, h7⟩ := hF4 j e
            exact ⟨cs, 32, h7, by decide, by decide, by decide, by decide, by decide⟩
          · obtain ⟨_, cs, h7⟩ := hF4 q e
            obtain ⟨-, -, cs', h9⟩ := EK.row_typed hdr hq
            rw [h7] at h9
            simp only [Option.some.injEq, Obj.cells.injEq] at h9
            exact absurd h9.2.1 (by decide)
        have HS4 := hide hS4
        have HCD2 := hide hcd2
        have HTS := hide hts
        have HTK := hide hcd.tok
        have hwrap : IntKind.i64.wrap (now + w1) = now + w1 := by rw [IntKind.wrap_i64]; omega
        have hwrap2 : IntKind.i64.wrap (2 * w1) = 2 * w1 := by rw [IntKind.wrap_i64]; omega
        have hwrap3 : IntKind.i64.wrap ((sn : Int) + 1) = (sn : Int) + 1 := by rw [IntKind.wrap_i64]; omega
        have hmn := fun ts ty => run_mn ts ty (2 * w1) 64 w2 (by rw [hw2, hw1]; rfl)
        clear hcd hcv hmr hml hdr hbb hkp hfk hkL hkid hkst hA hB hfb hbo hnx2 hnext hd hcell hid h8 hP e1b hsn hw1 hw2 hw hks hnow2 hts hcd2 hmlen hS4 hme hdst hbody
        go_wp2_with fail
        refine wp_region_c (duA g b n i now id (.slice (some ⟨r, 0, none⟩) n cap)) (fun j => #[42, 43, 44, 45, 46, 47, 48, 49, 50, 51, 52, 53, 54, 55, 56, 57, 58, 5].getD j 0) (fun d x w' => (ApS kM wr w.heap.size u5 M1 ⟨1, me, dst, id, body⟩ (d 15) (d 16) (x 15) (x 16) w' ∧ (d 17 = false → x 17 = u5) ∧ (d 17 = true → x 17 = x 16))) (fun qi qv => duV g b me dst id body u5 qi qv) (by kernel_rfl) (by kernel_rfl) rfl ⟨HA0.out _ _, (fun _ => rfl), (fun e => by cases e)⟩ ?_ ?_ ?_
        · exact fun u => ⟨fun x v => rfl, fun x v => rfl, fun x v => rfl, fun x v => rfl, fun x v => rfl, fun x v => rfl, fun x v => rfl, fun x v => rfl, fun x v => rfl, fun x v => rfl, fun x v => rfl, fun x v => rfl, fun x v => rfl, fun x v => rfl, fun x v => rfl, fun x v => rfl, fun x v => rfl, fun x v => rfl, trivial⟩
        · refine fun u => ⟨?_, ?_, ?_, ?_, ?_, ?_, ?_, ?_, ?_, ?_, ?_, ?_, ?_, ?_, ?_, ?_, ?_, ?_, trivial⟩
          · intro d x w' hS hdi hv hp hcl K hK
            have hS1 : (ApS kM wr w.heap.size u5 M1 ⟨1, me, dst, id, body⟩ (d 15) (d 16) (x 15) (x 16) w' ∧ (d 17 = false → x 17 = u5) ∧ (d 17 = true → x 17 = x 16)) := hS
            have n17 : ¬ d 17 = true := fun e => by have := hcl 17 0 e (by kernel_rfl); rw [hdi] at this; cases this
            have e17 := hS1.2.1 (by simpa using n17)
            refine ⟨rfl, ?_⟩
            unfold duA at hK ⊢
            simp only [e17] at hK ⊢
            go_wp2
            exact hK u5 w' ⟨hS1.1, (fun _ => rfl), (fun e => absurd e n17)⟩ rfl
          · intro d x w' hS hdi hv hp hcl K hK
            have hS1 : (ApS kM wr w.heap.size u5 M1 ⟨1, me, dst, id, body⟩ (d 15) (d 16) (x 15) (x 16) w' ∧ (d 17 = false → x 17 = u5) ∧ (d 17 = true → x 17 = x 16)) := hS
            refine ⟨rfl, ?_⟩
            unfold duA at hK ⊢
            go_wp2
            exact hK (.pointer (some ⟨g, 0, none⟩)) w' (show (ApS kM wr w.heap.size u5 M1 ⟨1, me, dst, id, body⟩ (d 15) (d 16) (x 15) (x 16) w' ∧ (d 17 = false → x 17 = u5) ∧ (d 17 = true → x 17 = x 16)) from hS1) rfl
          · intro d x w' hS hdi hv hp hcl K hK
            have d0 : x 1 = .pointer (some ⟨g, 0, none⟩) := hv 1 (hp 1 (by kernel_rfl))
            have hS1 : (ApS kM wr w.heap.size u5 M1 ⟨1, me, dst, id, body⟩ (d 15) (d 16) (x 15) (x 16) w' ∧ (d 17 = false → x 17 = u5) ∧ (d 17 = true → x 17 = x 16)) := hS
            refine ⟨rfl, ?_⟩
            unfold duA at hK ⊢
            simp only [d0] at hK ⊢
            go_wp2
            exact hK (.pointer (some ⟨g, 0, none⟩)) w' (show (ApS kM wr w.heap.size u5 M1 ⟨1, me, dst, id, body⟩ (d 15) (d 16) (x 15) (x 16) w' ∧ (d 17 = false → x 17 = u5) ∧ (d 17 = true → x 17 = x 16)) from hS1) rfl
          · intro d x w' hS hdi hv hp hcl K hK
            have d0 : x 2 = .pointer (some ⟨g, 0, none⟩) := hv 2 (hp 2 (by kernel_rfl))
            have hS1 : (ApS kM wr w.heap.size u5 M1 ⟨1, me, dst, id, body⟩ (d 15) (d 16) (x 15) (x 16) w' ∧ (d 17 = false → x 17 = u5) ∧ (d 17 = true → x 17 = x 16)) := hS
            refine ⟨rfl, ?_⟩
            unfold duA at hK ⊢
            simp only [d0] at hK ⊢
            go_wp2
            exact hK (.pointer (some ⟨g, 0, none⟩)) w' (show (ApS kM wr w.heap.size u5 M1 ⟨1, me, dst, id, body⟩ (d 15) (d 16) (x 15) (x 16) w' ∧ (d 17 = false → x 17 = u5) ∧ (d 17 = true → x 17 = x 16)) from hS1) rfl
          · intro d x w' hS hdi hv hp hcl K hK
            have d0 : x 3 = .pointer (some ⟨g, 0, none⟩) := hv 3 (hp 3 (by kernel_rfl))
            have hS1 : (ApS kM wr w.heap.size u5 M1 ⟨1, me, dst, id, body⟩ (d 15) (d 16) (x 15) (x 16) w' ∧ (d 17 = false → x 17 = u5) ∧ (d 17 = true → x 17 = x 16)) := hS
            have n16 : ¬ d 16 = true := fun e => by have := hcl 16 4 e (by kernel_rfl); rw [hdi] at this; cases this
            have z0 := obj_cell (obj_below HCV.out.o (hS1.1.b (by simpa using n16))) 0
            simp only [cC, List.getElem?_toArray, List.getElem?_cons_zero, HMK.out.1] at z0
            refine ⟨rfl, ?_⟩
            unfold duA at hK ⊢
            simp only [d0] at hK ⊢
            go_wp2
            exact hK (.int .i64 me) w' (show (ApS kM wr w.heap.size u5 M1 ⟨1, me, dst, id, body⟩ (d 15) (d 16) (x 15) (x 16) w' ∧ (d 17 = false → x 17 = u5) ∧ (d 17 = true → x 17 = x 16)) from hS1) rfl
          · intro d x w' hS hdi hv hp hcl K hK
            have hS1 : (ApS kM wr w.heap.size u5 M1 ⟨1, me, dst, id, body⟩ (d 15) (d 16) (x 15) (x 16) w' ∧ (d 17 = false → x 17 = u5) ∧ (d 17 = true → x 17 = x 16)) := hS
            refine ⟨rfl, ?_⟩
            unfold duA at hK ⊢
            go_wp2
            exact hK (.pointer (some ⟨b, 0, none⟩)) w' (show (ApS kM wr w.heap.size u5 M1 ⟨1, me, dst, id, body⟩ (d 15) (d 16) (x 15) (x 16) w' ∧ (d 17 = false → x 17 = u5) ∧ (d 17 = true → x 17 = x 16)) from hS1) rfl
          · intro d x w' hS hdi hv hp hcl K hK
            have d0 : x 5 = .pointer (some ⟨b, 0, none⟩) := hv 5 (hp 5 (by kernel_rfl))
            have hS1 : (ApS kM wr w.heap.size u5 M1 ⟨1, me, dst, id, body⟩ (d 15) (d 16) (x 15) (x 16) w' ∧ (d 17 = false → x 17 = u5) ∧ (d 17 = true → x 17 = x 16)) := hS
            refine ⟨rfl, ?_⟩
            unfold duA at hK ⊢
            simp only [d0] at hK ⊢
            go_wp2
            exact hK (.pointer (some ⟨b, 0, none⟩)) w' (show (ApS kM wr w.heap.size u5 M1 ⟨1, me, dst, id, body⟩ (d 15) (d 16) (x 15) (x 16) w' ∧ (d 17 = false → x 17 = u5) ∧ (d 17 = true → x 17 = x 16)) from hS1) rfl
          · intro d x w' hS hdi hv hp hcl K hK
            have d0 : x 6 = .pointer (some ⟨b, 0, none⟩) := hv 6 (hp 6 (by kernel_rfl))
            have hS1 : (ApS kM wr w.heap.size u5 M1 ⟨1, me, dst, id, body⟩ (d 15) (d 16) (x 15) (x 16) w' ∧ (d 17 = false → x 17 = u5) ∧ (d 17 = true → x 17 = x 16)) := hS
            refine ⟨rfl, ?_⟩
            unfold duA at hK ⊢
            simp only [d0] at hK ⊢
            go_wp2
            exact hK (.pointer (some ⟨b, 0, none⟩)) w' (show (ApS kM wr w.heap.size u5 M1 ⟨1, me, dst, id, body⟩ (d 15) (d 16) (x 15) (x 16) w' ∧ (d 17 = false → x 17 = u5) ∧ (d 17 = true → x 17 = x 16)) from hS1) rfl
          · intro d x w' hS hdi hv hp hcl K hK
            have d0 : x 7 = .pointer (some ⟨b, 0, none⟩) := hv 7 (hp 7 (by kernel_rfl))
            have hS1 : (ApS kM wr w.heap.size u5 M1 ⟨1, me, dst, id, body⟩ (d 15) (d 16) (x 15) (x 16) w' ∧ (d 17 = false → x 17 = u5) ∧ (d 17 = true → x 17 = x 16)) := hS
            have n16 : ¬ d 16 = true := fun e => by have := hcl 16 8 e (by kernel_rfl); rw [hdi] at this; cases this
            have z0 := obj_cell (obj_below HBO.out (hS1.1.b (by simpa using n16))) 0
            simp only [ckC, List.getElem?_toArray, List.getElem?_cons_zero, HMK.out.2.1, HMK.out.2.2] at z0
            refine ⟨rfl, ?_⟩
            unfold duA at hK ⊢
            simp only [d0] at hK ⊢
            go_wp2
            exact hK (.int .i64 dst) w' (show (ApS kM wr w.heap.size u5 M1 ⟨1, me, dst, id, body⟩ (d 15) (d 16) (x 15) (x 16) w' ∧ (d 17 = false → x 17 = u5) ∧ (d 17 = true → x 17 = x 16)) from hS1) rfl
          · intro d x w' hS hdi hv hp hcl K hK
            have hS1 : (ApS kM wr w.heap.size u5 M1 ⟨1, me, dst, id, body⟩ (d 15) (d 16) (x 15) (x 16) w' ∧ (d 17 = false → x 17 = u5) ∧ (d 17 = true → x 17 = x 16)) := hS
            refine ⟨rfl, ?_⟩
            unfold duA at hK ⊢
            go_wp2
            exact hK (.int .i64 id) w' (show (ApS kM wr w.heap.size u5 M1 ⟨1, me, dst, id, body⟩ (d 15) (d 16) (x 15) (x 16) w' ∧ (d 17 = false → x 17 = u5) ∧ (d 17 = true → x 17 = x 16)) from hS1) rfl
          · intro d x w' hS hdi hv hp hcl K hK
            have hS1 : (ApS kM wr w.heap.size u5 M1 ⟨1, me, dst, id, body⟩ (d 15) (d 16) (x 15) (x 16) w' ∧ (d 17 = false → x 17 = u5) ∧ (d 17 = true → x 17 = x 16)) := hS
            refine ⟨rfl, ?_⟩
            unfold duA at hK ⊢
            go_wp2
            exact hK (.pointer (some ⟨b, 0, none⟩)) w' (show (ApS kM wr w.heap.size u5 M1 ⟨1, me, dst, id, body⟩ (d 15) (d 16) (x 15) (x 16) w' ∧ (d 17 = false → x 17 = u5) ∧ (d 17 = true → x 17 = x 16)) from hS1) rfl
          · intro d x w' hS hdi hv hp hcl K hK
            have d0 : x 10 = .pointer (some ⟨b, 0, none⟩) := hv 10 (hp 10 (by kernel_rfl))
            have hS1 : (ApS kM wr w.heap.size u5 M1 ⟨1, me, dst, id, body⟩ (d 15) (d 16) (x 15) (x 16) w' ∧ (d 17 = false → x 17 = u5) ∧ (d 17 = true → x 17 = x 16)) := hS
            refine ⟨rfl, ?_⟩
            unfold duA at hK ⊢
            simp only [d0] at hK ⊢
            go_wp2
            exact hK (.pointer (some ⟨b, 0, none⟩)) w' (show (ApS kM wr w.heap.size u5 M1 ⟨1, me, dst, id, body⟩ (d 15) (d 16) (x 15) (x 16) w' ∧ (d 17 = false → x 17 = u5) ∧ (d 17 = true → x 17 = x 16)) from hS1) rfl
          · intro d x w' hS hdi hv hp hcl K hK
            have d0 : x 11 = .pointer (some ⟨b, 0, none⟩) := hv 11 (hp 11 (by kernel_rfl))
            have hS1 : (ApS kM wr w.heap.size u5 M1 ⟨1, me, dst, id, body⟩ (d 15) (d 16) (x 15) (x 16) w' ∧ (d 17 = false → x 17 = u5) ∧ (d 17 = true → x 17 = x 16)) := hS
            refine ⟨rfl, ?_⟩
            unfold duA at hK ⊢
            simp only [d0] at hK ⊢
            go_wp2
            exact hK (.pointer (some ⟨b, 3, none⟩)) w' (show (ApS kM wr w.heap.size u5 M1 ⟨1, me, dst, id, body⟩ (d 15) (d 16) (x 15) (x 16) w' ∧ (d 17 = false → x 17 = u5) ∧ (d 17 = true → x 17 = x 16)) from hS1) rfl
          · intro d x w' hS hdi hv hp hcl K hK
            have d0 : x 12 = .pointer (some ⟨b, 3, none⟩) := hv 12 (hp 12 (by kernel_rfl))
            have hS1 : (ApS kM wr w.heap.size u5 M1 ⟨1, me, dst, id, body⟩ (d 15) (d 16) (x 15) (x 16) w' ∧ (d 17 = false → x 17 = u5) ∧ (d 17 = true → x 17 = x 16)) := hS
            have n16 : ¬ d 16 = true := fun e => by have := hcl 16 13 e (by kernel_rfl); rw [hdi] at this; cases this
            have z0 := obj_cell (obj_below HBO.out (hS1.1.b (by simpa using n16))) 3
            simp only [ckC, List.getElem?_toArray, List.getElem?_cons_zero, List.getElem?_cons_succ, HMK.out.2.1, HMK.out.2.2] at z0
            refine ⟨rfl, ?_⟩
            unfold duA at hK ⊢
            simp only [d0] at hK ⊢
            go_wp2
            exact hK (.string body) w' (show (ApS kM wr w.heap.size u5 M1 ⟨1, me, dst, id, body⟩ (d 15) (d 16) (x 15) (x 16) w' ∧ (d 17 = false → x 17 = u5) ∧ (d 17 = true → x 17 = x 16)) from hS1) rfl
          · intro d x w' hS hdi hv hp hcl K hK
            have d0 : x 4 = .int .i64 me := hv 4 (hp 4 (by kernel_rfl))
            have d1 : x 8 = .int .i64 dst := hv 8 (hp 8 (by kernel_rfl))
            have d2 : x 9 = .int .i64 id := hv 9 (hp 9 (by kernel_rfl))
            have d3 : x 13 = .string body := hv 13 (hp 13 (by kernel_rfl))
            have hS1 : (ApS kM wr w.heap.size u5 M1 ⟨1, me, dst, id, body⟩ (d 15) (d 16) (x 15) (x 16) w' ∧ (d 17 = false → x 17 = u5) ∧ (d 17 = true → x 17 = x 16)) := hS
            refine ⟨rfl, ?_⟩
            unfold duA at hK ⊢
            simp only [d0, d1, d2, d3] at hK ⊢
            go_wp2
            exact hK (.agg #[.int .i64 1, .int .i64 me, .int .i64 dst, .int .i64 id, .string body]) w' (show (ApS kM wr w.heap.size u5 M1 ⟨1, me, dst, id, body⟩ (d 15) (d 16) (x 15) (x 16) w' ∧ (d 17 = false → x 17 = u5) ∧ (d 17 = true → x 17 = x 16)) from hS1) rfl
          · intro d x w' hS hdi hv hp hcl K hK
            have d0 : x 14 = .agg #[.int .i64 1, .int .i64 me, .int .i64 dst, .int .i64 id, .string body] := hv 14 (hp 14 (by kernel_rfl))
            have hS1 : (ApS kM wr w.heap.size u5 M1 ⟨1, me, dst, id, body⟩ (d 15) (d 16) (x 15) (x 16) w' ∧ (d 17 = false → x 17 = u5) ∧ (d 17 = true → x 17 = x 16)) := hS
            have n16 : ¬ d 16 = true := fun e => by have := hcl 16 15 e (by kernel_rfl); rw [hdi] at this; cases this
            refine ⟨rfl, ?_⟩
            unfold duA at hK ⊢
            simp only [d0] at hK ⊢
            go_wp2
            exact hK _ _ (show ApS kM wr w.heap.size u5 M1 ⟨1, me, dst, id, body⟩ true (d 16) _ (x 16) _ ∧ _ ∧ _ from ⟨hS1.1.bs (by simpa using n16) _ rfl _ rfl, hS1.2⟩) trivial
          · intro d x w' hS hdi hv hp hcl K hK
            have d0 : x 0 = u5 := hv 0 (hp 0 (by kernel_rfl))
            have hS1 : (ApS kM wr w.heap.size u5 M1 ⟨1, me, dst, id, body⟩ (d 15) (d 16) (x 15) (x 16) w' ∧ (d 17 = false → x 17 = u5) ∧ (d 17 = true → x 17 = x 16)) := hS
            have y15 : d 15 = true := hp 15 (by kernel_rfl)
            have n17 : ¬ d 17 = true := fun e => by have := hcl 17 16 e (by kernel_rfl); rw [hdi] at this; cases this
            obtain ⟨bx, e15, v', w4, hrun, hS2⟩ := hS1.1.ap HMR.out HML2.out HSZW.out (by simpa using hdi) y15 40
            refine ⟨rfl, ?_⟩
            unfold duA at hK ⊢
            simp only [d0] at hK ⊢
            exact wp_append_n (.tmp 42) (.tmp 57) 40 40 rfl rfl e15 hrun (hK _ _ (show ApS kM wr w.heap.size u5 M1 ⟨1, me, dst, id, body⟩ (d 15) true (x 15) v' w4 ∧ _ ∧ _ from ⟨by rw [e15]; exact hS2, hS1.2.1, fun e => absurd e n17⟩) trivial)
          · intro d x w' hS hdi hv hp hcl K hK
            have hS1 : (ApS kM wr w.heap.size u5 M1 ⟨1, me, dst, id, body⟩ (d 15) (d 16) (x 15) (x 16) w' ∧ (d 17 = false → x 17 = u5) ∧ (d 17 = true → x 17 = x 16)) := hS
            refine ⟨rfl, ?_⟩
            unfold duA at hK ⊢
            go_wp2
            exact hK _ _ (show ApS kM wr w.heap.size u5 M1 ⟨1, me, dst, id, body⟩ (d 15) (d 16) (x 15) (x 16) _ ∧ _ ∧ _ from ⟨hS1.1, (fun e => by cases e), fun _ => rfl⟩) trivial
        · intro u hu d xx w4 hS hd hv
          have HU := hide hu
          have hS1 : (ApS kM wr w.heap.size u5 M1 ⟨1, me, dst, id, body⟩ (d 15) (d 16) (xx 15) (xx 16) w4 ∧ (d 17 = false → xx 17 = u5) ∧ (d 17 = true → xx 17 = xx 16)) := hS
          have e17 := hS1.2.2 (hd 17 (by decide))
          obtain ⟨hcv4, hmr4, hdr4, hbb4, hkp4⟩ := HS4.out (xx 15) (xx 16) w4 (by
            have := hS1.1
            rwa [hd 15 (by decide), hd 16 (by decide)] at this)
          obtain ⟨v4, hv4⟩ : ∃ v4, v4 = xx 16 := ⟨_, rfl⟩
          rw [← hv4] at e17 hmr4
          have hd4 : Below w4.heap.size w4 w4.drew := (Below.refl _ _).drew
          have hset := tset_any (hcv4.below hd4).tx HTK.out id (now + w1)
          rw [HTS.out] at hset
          have hS5 : ∀ w5, TAft w4.drew B t p c v2 (tIns x1 ⟨id, now + w1⟩) w5 → (∃ v', CV w5 B g t p c cm v' ⟨S.me, S.next, L1⟩ (tIns x1 ⟨id, now + w1⟩) f2) ∧ kM.row w5 w.heap.size v4 (M1 ++ dueM S.me k) ∧ kI.row w5 w.heap.size (.slice (some ⟨r, 0, none⟩) n cap) (X.map (·.id)) ∧ Below B w w5 ∧ Kp w w5 := fun w5 ha => by
            obtain ⟨a1, a2, a3⟩ := (hcv4.below hd4).timers ha
            exact ⟨a1, row_kp (EK.row_below hmr4 hd4) a2 a3 (by decide) (by decide) (by decide) (by decide), row_kp (EK.row_below hdr4 hd4) a2 a3 (by decide) (by decide) (by decide) (by decide), (hbb4.trans ((Below.refl _ _).drew)).trans a2, (hkp4.trans (.of_below hd4)).trans a3⟩
          have HSET := hide hset
          have HS5 := hide hS5
          have y3 := obj_cell hcv4.o 3
          obtain ⟨k4, hk4m, hk4i, hbo4⟩ := hcv4.cf.blk HFB.out
          obtain rfl : k4 = k := ids_inj HCD.out.ids hk4m HKL.out.1 (hk4i.trans HKL.out.2.symm)
          have y2 := obj_cell hbo4 2
          simp only [cC, ckC, List.getElem?_toArray, List.getElem?_cons_zero, List.getElem?_cons_succ] at y3 y2
          rw [HKV.out.1, HKV.out.2.1] at y2
          clear hS hS1 hd hv hu hcv4 hmr4 hdr4 hbb4 hkp4 hv4 hd4 hset hS5 hk4m hk4i hbo4 q0 z2 k1
          unfold duA
          rw [e17]
          clear e17
          go_wp2_with fail
          refine wp_stl 11 (by kernel_rfl) (by kernel_rfl) ?_
          simp only [List.take_succ_cons, List.take_zero, List.drop_succ_cons, List.drop_zero]
          repeat still_step
          refine wpStill_nil ?_
          clear y2 y3
          go_wp2_with fail
          refine HSET.out.mono ?_
          rintro e wq ⟨rfl, ha⟩
          obtain ⟨⟨v5, hv5⟩, hm5, hd5, hb5, hk5⟩ := HS5.out _ ha
          obtain ⟨k5, hk5m, hk5i, hbo5⟩ := hv5.cf.blk HFB.out
          obtain rfl : k5 = k4 := ids_inj HCD.out.ids hk5m HKL.out.1 (hk5i.trans HKL.out.2.symm)
          have HS0 := hide (show Du2 wq b k5 false false wq.drew from ⟨hbo5, (Fr.refl _ _).drew⟩)
          have HV5 := hide hv5
          have HM5 := hide hm5
          have HD5 := hide hd5
          have HB5 := hide hb5
          have HK5 := hide hk5
          obtain ⟨vo, hvo⟩ : ∃ v, v = v4 := ⟨_, rfl⟩
          rw [← hvo] at HM5 ⊢
          clear ha hv5 hm5 hd5 hb5 hk5 hk5m hk5i hbo5 hvo
          go_wp2_with fail
          refine wp_region_c (dwA g b n i now vo (.slice (some ⟨r, 0, none⟩) n cap)) (fun j => #[71, 72, 73, 74, 75, 76, 77, 78, 79, 80, 81, 82, 83, 84, 85, 0, 86, 87, 0].getD j 0) (fun d x' w' => Du2 wq b k5 (d 15) (d 18) w') (fun qi qv => dwV b sn w1 w2 qi qv) (by kernel_rfl) (by kernel_rfl) rfl HS0.out ?_ ?_ ?_
          · exact fun u => ⟨fun x v => rfl, fun x v => rfl, fun x v => rfl, fun x v => rfl, fun x v => rfl, fun x v => rfl, fun x v => rfl, fun x v => rfl, fun x v => rfl, fun x v => rfl, fun x v => rfl, fun x v => rfl, fun x v => rfl, fun x v => rfl, fun x v => rfl, fun x v => rfl, fun x v => rfl, fun x v => rfl, fun x v => rfl, trivial⟩
          · refine fun u => ⟨?_, ?_, ?_, ?_, ?_, ?_, ?_, ?_, ?_, ?_, ?_, ?_, ?_, ?_, ?_, ?_, ?_, ?_, ?_, trivial⟩
            · intro d x w' hS hdi hv hp hcl K hK
              have hS1 : Du2 wq b k5 (d 15) (d 18) w' := hS
              refine ⟨rfl, ?_⟩
              unfold dwA at hK ⊢
              go_wp2
              exact hK (.pointer (some ⟨b, 0, none⟩)) w' (show Du2 wq b k5 (d 15) (d 18) w' from hS1) rfl
            · intro d x w' hS hdi hv hp hcl K hK
              have hS1 : Du2 wq b k5 (d 15) (d 18) w' := hS
              refine ⟨rfl, ?_⟩
              unfold dwA at hK ⊢
              go_wp2
              exact hK (.pointer (some ⟨b, 0, none⟩)) w' (show Du2 wq b k5 (d 15) (d 18) w' from hS1) rfl
            · intro d x w' hS hdi hv hp hcl K hK
              have hS1 : Du2 wq b k5 (d 15) (d 18) w' := hS
              refine ⟨rfl, ?_⟩
              unfold dwA at hK ⊢
              go_wp2
              exact hK (.pointer (some ⟨b, 0, none⟩)) w' (show Du2 wq b k5 (d 15) (d 18) w' from hS1) rfl
            · intro d x w' hS hdi hv hp hcl K hK
              have d0 : x 2 = .pointer (some ⟨b, 0, none⟩) := hv 2 (hp 2 (by kernel_rfl))
              have hS1 : Du2 wq b k5 (d 15) (d 18) w' := hS
              refine ⟨rfl, ?_⟩
              unfold dwA at hK ⊢
              simp only [d0] at hK ⊢
              go_wp2
              exact hK (.pointer (some ⟨b, 0, none⟩)) w' (show Du2 wq b k5 (d 15) (d 18) w' from hS1) rfl
            · intro d x w' hS hdi hv hp hcl K hK
              have d0 : x 3 = .pointer (some ⟨b, 0, none⟩) := hv 3 (hp 3 (by kernel_rfl))
              have hS1 : Du2 wq b k5 (d 15) (d 18) w' := hS
              refine ⟨rfl, ?_⟩
              unfold dwA at hK ⊢
              simp only [d0] at hK ⊢
              go_wp2
              exact hK (.pointer (some ⟨b, 1, none⟩)) w' (show Du2 wq b k5 (d 15) (d 18) w' from hS1) rfl
            · intro d x w' hS hdi hv hp hcl K hK
              have d0 : x 4 = .pointer (some ⟨b, 1, none⟩) := hv 4 (hp 4 (by kernel_rfl))
              have hS1 : Du2 wq b k5 (d 15) (d 18) w' := hS
              have n15 : ¬ d 15 = true := fun e => by have := hcl 15 5 e (by kernel_rfl); rw [hdi] at this; cases this
              have z1 := obj_cell hS1.o 1
              rw [if_neg n15] at z1
              simp only [List.getElem?_toArray, List.getElem?_cons_zero, List.getElem?_cons_succ, HKV.out.1] at z1
              refine ⟨rfl, ?_⟩
              unfold dwA at hK ⊢
              simp only [d0] at hK ⊢
              go_wp2
              exact hK (.int .i64 (sn : Int)) w' (show Du2 wq b k5 (d 15) (d 18) w' from hS1) rfl
            · intro d x w' hS hdi hv hp hcl K hK
              have d0 : x 5 = .int .i64 (sn : Int) := hv 5 (hp 5 (by kernel_rfl))
              have hS1 : Du2 wq b k5 (d 15) (d 18) w' := hS
              refine ⟨rfl, ?_⟩
              unfold dwA at hK ⊢
              simp only [d0] at hK ⊢
              go_wp2
              exact hK (.int .i64 ((sn : Int) + 1)) w' (show Du2 wq b k5 (d 15) (d 18) w' from hS1) rfl
            · intro d x w' hS hdi hv hp hcl K hK
              have hS1 : Du2 wq b k5 (d 15) (d 18) w' := hS
              refine ⟨rfl, ?_⟩
              unfold dwA at hK ⊢
              go_wp2
              exact hK (.pointer (some ⟨b, 0, none⟩)) w' (show Du2 wq b k5 (d 15) (d 18) w' from hS1) rfl
            · intro d x w' hS hdi hv hp hcl K hK
              have d0 : x 7 = .pointer (some ⟨b, 0, none⟩) := hv 7 (hp 7 (by kernel_rfl))
              have hS1 : Du2 wq b k5 (d 15) (d 18) w' := hS
              refine ⟨rfl, ?_⟩
              unfold dwA at hK ⊢
              simp only [d0] at hK ⊢
              go_wp2
              exact hK (.pointer (some ⟨b, 0, none⟩)) w' (show Du2 wq b k5 (d 15) (d 18) w' from hS1) rfl
            · intro d x w' hS hdi hv hp hcl K hK
              have d0 : x 8 = .pointer (some ⟨b, 0, none⟩) := hv 8 (hp 8 (by kernel_rfl))
              have hS1 : Du2 wq b k5 (d 15) (d 18) w' := hS
              refine ⟨rfl, ?_⟩
              unfold dwA at hK ⊢
              simp only [d0] at hK ⊢
              go_wp2
              exact hK (.pointer (some ⟨b, 2, none⟩)) w' (show Du2 wq b k5 (d 15) (d 18) w' from hS1) rfl
            · intro d x w' hS hdi hv hp hcl K hK
              have d0 : x 9 = .pointer (some ⟨b, 2, none⟩) := hv 9 (hp 9 (by kernel_rfl))
              have hS1 : Du2 wq b k5 (d 15) (d 18) w' := hS
              have n18 : ¬ d 18 = true := fun e => by have := hcl 18 10 e (by kernel_rfl); rw [hdi] at this; cases this
              have z2 := obj_cell hS1.o 2
              rw [if_neg n18] at z2
              simp only [List.getElem?_toArray, List.getElem?_cons_zero, List.getElem?_cons_succ, HKV.out.1, HKV.out.2.1] at z2
              refine ⟨rfl, ?_⟩
              unfold dwA at hK ⊢
              simp only [d0] at hK ⊢
              go_wp2
              exact hK (.int .i64 w1) w' (show Du2 wq b k5 (d 15) (d 18) w' from hS1) rfl
            · intro d x w' hS hdi hv hp hcl K hK
              have d0 : x 10 = .int .i64 w1 := hv 10 (hp 10 (by kernel_rfl))
              have hS1 : Du2 wq b k5 (d 15) (d 18) w' := hS
              refine ⟨rfl, ?_⟩
              unfold dwA at hK ⊢
              simp only [d0] at hK ⊢
              go_wp2
              exact hK (.int .i64 (2 * w1)) w' (show Du2 wq b k5 (d 15) (d 18) w' from hS1) rfl
            · intro d x w' hS hdi hv hp hcl K hK
              have d0 : x 11 = .int .i64 (2 * w1) := hv 11 (hp 11 (by kernel_rfl))
              have hS1 : Du2 wq b k5 (d 15) (d 18) w' := hS
              refine ⟨rfl, ?_⟩
              unfold dwA at hK ⊢
              simp only [d0] at hK ⊢
              go_wp2
              exact hK (.int .i64 w2) w' (show Du2 wq b k5 (d 15) (d 18) w' from hS1) rfl
            · intro d x w' hS hdi hv hp hcl K hK
              have d0 : x 0 = .pointer (some ⟨b, 0, none⟩) := hv 0 (hp 0 (by kernel_rfl))
              have hS1 : Du2 wq b k5 (d 15) (d 18) w' := hS
              refine ⟨rfl, ?_⟩
              unfold dwA at hK ⊢
              simp only [d0] at hK ⊢
              go_wp2
              exact hK (.pointer (some ⟨b, 0, none⟩)) w' (show Du2 wq b k5 (d 15) (d 18) w' from hS1) rfl
            · intro d x w' hS hdi hv hp hcl K hK
              have d0 : x 13 = .pointer (some ⟨b, 0, none⟩) := hv 13 (hp 13 (by kernel_rfl))
              have hS1 : Du2 wq b k5 (d 15) (d 18) w' := hS
              refine ⟨rfl, ?_⟩
              unfold dwA at hK ⊢
              simp only [d0] at hK ⊢
              go_wp2
              exact hK (.pointer (some ⟨b, 1, none⟩)) w' (show Du2 wq b k5 (d 15) (d 18) w' from hS1) rfl
            · intro d x w' hS hdi hv hp hcl K hK
              have d0 : x 14 = .pointer (some ⟨b, 1, none⟩) := hv 14 (hp 14 (by kernel_rfl))
              have d1 : x 6 = .int .i64 ((sn : Int) + 1) := hv 6 (hp 6 (by kernel_rfl))
              have hS1 : Du2 wq b k5 (d 15) (d 18) w' := hS
              have z1 := obj_cell hS1.o 1
              have t1 := obj_frozen hS1.o 1
              simp only [List.getElem?_toArray, List.getElem?_cons_zero, List.getElem?_cons_succ] at z1
              refine ⟨rfl, ?_⟩
              unfold dwA at hK ⊢
              simp only [d0, d1] at hK ⊢
              go_wp2
              exact hK undef _ (show Du2 wq b k5 true (d 18) _ from by have := hS1.s15; rwa [HKV.out.1] at this) trivial
            · intro d x w' hS hdi hv hp hcl K hK
              have d0 : x 1 = .pointer (some ⟨b, 0, none⟩) := hv 1 (hp 1 (by kernel_rfl))
              have hS1 : Du2 wq b k5 (d 15) (d 18) w' := hS
              refine ⟨rfl, ?_⟩
              unfold dwA at hK ⊢
              simp only [d0] at hK ⊢
              go_wp2
              exact hK (.pointer (some ⟨b, 0, none⟩)) w' (show Du2 wq b k5 (d 15) (d 18) w' from hS1) rfl
            · intro d x w' hS hdi hv hp hcl K hK
              have d0 : x 16 = .pointer (some ⟨b, 0, none⟩) := hv 16 (hp 16 (by kernel_rfl))
              have hS1 : Du2 wq b k5 (d 15) (d 18) w' := hS
              refine ⟨rfl, ?_⟩
              unfold dwA at hK ⊢
              simp only [d0] at hK ⊢
              go_wp2
              exact hK (.pointer (some ⟨b, 2, none⟩)) w' (show Du2 wq b k5 (d 15) (d 18) w' from hS1) rfl
            · intro d x w' hS hdi hv hp hcl K hK
              have d0 : x 17 = .pointer (some ⟨b, 2, none⟩) := hv 17 (hp 17 (by kernel_rfl))
              have d1 : x 12 = .int .i64 w2 := hv 12 (hp 12 (by kernel_rfl))
              have hS1 : Du2 wq b k5 (d 15) (d 18) w' := hS
              have z2 := obj_cell hS1.o 2
              have t2 := obj_frozen hS1.o 2
              simp only [List.getElem?_toArray, List.getElem?_cons_zero, List.getElem?_cons_succ] at z2
              refine ⟨rfl, ?_⟩
              unfold dwA at hK ⊢
              simp only [d0, d1] at hK ⊢
              go_wp2
              exact hK undef _ (show Du2 wq b k5 (d 15) true _ from by have := hS1.s18; rwa [HKV.out.1, HKV.out.2.2] at this) trivial
          · intro u' hu d xx w5 hS hd hv
            have HU2 := hide hu
            have hS1 : Du2 wq b k5 (d 15) (d 18) w5 := hS
            have ho := hS1.o
            rw [hd 15 (by decide), hd 18 (by decide), if_pos rfl, if_pos rfl, ← dueG_cells now HH8.out] at ho
            obtain ⟨a1, a2, a3⟩ := HV5.out.turn HCD.out.ids HFB.out HKL.out.1 HKL.out.2 (gg := dueG now) (dueG_id now) hS1.f ho
            have HRES := hide (show DuS w B g t p c cm S X now (.slice (some ⟨r, 0, none⟩) n cap) n w5 vo (.int .i64 ((i : Int) + 1)) from by
              have hml := HML.out
              refine ⟨i + 1, tIns x1 ⟨id, now + w1⟩, rfl, hin, ?_, ⟨v5, f2, ?_⟩, ?_, ?_, row_kp HD5.out a2 a3 (by decide) (by decide) (by decide) (by decide), HB5.out.trans a2, HK5.out.trans a3⟩
              · rw [HNEXT.out, ← HID.out]
                exact HCD2.out
              · rw [HNEXT.out]
                exact a1
              · rw [HNEXT.out]
                exact row_kp HM5.out a2 a3 (by decide) (by decide) (by decide) (by decide)
              · rw [HNEXT.out]
                simp only [List.length_append]
                have : (dueM S.me k5).length ≤ 1 := by unfold dueM; split <;> simp
                omega)
            clear hS hS1 hd hv hu ho a1 a2 a3
            unfold dwA
            go_wp2_with fail
            refine ⟨?_, ?_⟩
            · rw [HU2.out, HU.out]
              (repeat apply Exists.intro)
              exact ⟨HRES.out, rfl⟩
            · show n - (intOf (.int .i64 ((i : Int) + 1))).toNat < n - (intOf (.int .i64 (i : Int))).toNat
              simp only [intOf]
              omega
    · have hke : n = i := by omega
      subst hke
      have e1 : (X.map (·.id)).take n = X.map (·.id) := List.take_of_length_le (by rw [List.length_map]; have := HN.out.1; omega)
      have e2 : X.drop n = [] := List.drop_eq_nil_of_le (by have := HN.out.1; omega)
      rw [e1] at hcd hcv hmr
      rw [e2] at hcd
      have HFIN := hide (show CA w B g t p c cm ⟨S.me, S.next, (cRun S.me now (X.map (·.id)) S.L).1⟩ x1 wr from ⟨⟨v2, f2, hcv⟩, hcd.done, hbb, hkp⟩)
      have HMR := hide hmr
      clear hcd hcv hmr hml hdr hbb hkp e1 e2
      go_wp2
      go_ret
      exact ⟨_, rfl, HMR.out, _, HFIN.out⟩
end Go.Proofs.Ythcnoamgkkbkcaa
