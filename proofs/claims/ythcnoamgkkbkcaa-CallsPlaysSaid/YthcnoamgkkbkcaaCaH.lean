/- Chapter 14, calls: what they are, plainly. -/
import Derived.Test.YthcnoamgkkbkcaaTiL
namespace Go.Proofs.Ythcnoamgkkbkcaa

/-- A call: where it goes, what it has come to, how often it was sent, when it is due. -/
structure Ck where
  id : Int
  dst : Int
  st : Int
  sent : Nat
  due : Int
  body : ByteArray
  rep : ByteArray
structure Mg where
  kind : Int
  frm : Int
  dst : Int
  id : Int
  body : ByteArray
structure CS where
  me : Int
  next : Int
  L : List Ck
def Ck.opn (k : Ck) : Bool := k.st == 1
def Ck.tm (k : Ck) : Tm := ⟨k.id, k.due⟩
def wt : Nat → Int
  | 0 => 4
  | n + 1 => min (2 * wt n) 64
def opens (L : List Ck) : List Int := (L.filter Ck.opn).map (·.id)
def tms (L : List Ck) : List Tm := (L.filter Ck.opn).map Ck.tm
theorem tms_ids (L : List Ck) : (tms L).map (·.id) = opens L := by
  unfold tms opens
  rw [List.map_map]
  rfl
theorem tms_len (L : List Ck) : (tms L).length = (opens L).length := by simp [tms, opens]
def badN (now : Int) : Prop := now < 0 ∨ 1099511626776 < now
instance (now : Int) : Decidable (badN now) := by unfold badN; exact inferInstance
structure COk (S : CS) (x : List Tm) : Prop where
  ids : S.L.Pairwise fun a b => a.id < b.id
  rng : ∀ k ∈ S.L, 0 ≤ k.id ∧ k.id < S.next
  sent : ∀ k ∈ S.L, k.sent ≤ 8
  st : ∀ k ∈ S.L, k.st = 1 ∨ k.st = 2 ∨ k.st = 3
  rep : ∀ k ∈ S.L, k.st = 1 → k.rep = ByteArray.empty
  nxt : 0 ≤ S.next ∧ S.next ≤ 2147483647
  per : x.Perm (tms S.L)
  tok : TOk x
theorem COk.few {S : CS} {x : List Tm} (h : COk S x) : (opens S.L).length ≤ 64 := by
  rw [← tms_len, ← h.per.length_eq]
  exact h.tok.few
theorem COk.xlen {S : CS} {x : List Tm} (h : COk S x) : x.length = (opens S.L).length := by rw [← tms_len, ← h.per.length_eq]
theorem wt_rng : ∀ n, 4 ≤ wt n ∧ wt n ≤ 64
  | 0 => by decide
  | n + 1 => by
    have := wt_rng n
    unfold wt
    omega
/-- Who is open, by its timer. -/
theorem tms_mem {L : List Ck} {t : Tm} : t ∈ tms L ↔ ∃ k ∈ L, k.st = 1 ∧ k.tm = t := by
  unfold tms
  simp only [List.mem_map, List.mem_filter, Ck.opn, beq_iff_eq]
  constructor
  · rintro ⟨k, ⟨h1, h2⟩, h3⟩
    exact ⟨k, h1, h2, h3⟩
  · rintro ⟨k, h1, h2, h3⟩
    exact ⟨k, ⟨h1, h2⟩, h3⟩
theorem ids_inj {L : List Ck} (h : L.Pairwise fun a b => a.id < b.id) {a b : Ck} (ha : a ∈ L) (hb : b ∈ L) (e : a.id = b.id) : a = b := by
  induction L with
  | nil => cases ha
  | cons x l ih =>
    have h1 := (List.pairwise_cons.1 h).1
    rcases List.mem_cons.1 ha with rfl | ha' <;> rcases List.mem_cons.1 hb with rfl | hb'
    · rfl
    · have := h1 b hb'
      omega
    · have := h1 a ha'
      omega
    · exact ih (List.pairwise_cons.1 h).2 ha' hb'
def fnd (L : List Ck) (id : Int) : Option Ck := L.find? fun k => k.id == id
theorem fnd_some {L : List Ck} {id : Int} {k : Ck} (h : fnd L id = some k) : k ∈ L ∧ k.id = id := ⟨List.mem_of_find?_eq_some h, by simpa using List.find?_some h⟩
theorem fnd_none {L : List Ck} {id : Int} (h : fnd L id = none) : ∀ k ∈ L, k.id ≠ id := fun k hk e => by
  have := List.find?_eq_none.1 h k hk
  simp [e] at this
theorem fnd_of {L : List Ck} (hs : L.Pairwise fun a b => a.id < b.id) {k : Ck} (hk : k ∈ L) : fnd L k.id = some k := by
  rcases e : fnd L k.id with _ | j
  · exact absurd rfl (fnd_none e k hk)
  · obtain ⟨h1, h2⟩ := fnd_some e
    rw [ids_inj hs h1 hk h2]
/-- A call turned. -/
def upd (L : List Ck) (id : Int) (g : Ck → Ck) : List Ck := L.map fun k => if k.id = id then g k else k
theorem upd_ids {L : List Ck} {id : Int} {g : Ck → Ck} (hg : ∀ k, (g k).id = k.id) (h : L.Pairwise fun a b => a.id < b.id) : (upd L id g).Pairwise fun a b => a.id < b.id := by
  unfold upd
  rw [List.pairwise_map]
  refine h.imp fun {a b} hab => ?_
  have e : ∀ k : Ck, (if k.id = id then g k else k).id = k.id := fun k => by split <;> simp [hg]
  rw [e, e]
  exact hab
theorem upd_mem {L : List Ck} {id : Int} {g : Ck → Ck} {k : Ck} (h : k ∈ upd L id g) : (∃ j ∈ L, j.id = id ∧ k = g j) ∨ (k ∈ L ∧ k.id ≠ id) := by
  unfold upd at h
  obtain ⟨j, hj, e⟩ := List.mem_map.1 h
  by_cases hi : j.id = id
  · rw [if_pos hi] at e
    exact .inl ⟨j, hj, hi, e.symm⟩
  · rw [if_neg hi] at e
    subst e
    exact .inr ⟨hj, hi⟩
theorem upd_no {L : List Ck} {id : Int} {g : Ck → Ck} (h : ∀ k ∈ L, k.id ≠ id) : upd L id g = L := by
  unfold upd
  conv => rhs; rw [← List.map_id L]
  exact List.map_congr_left fun k hk => by rw [if_neg (h k hk)]; rfl
theorem upd_len (L : List Ck) (id : Int) (g : Ck → Ck) : (upd L id g).length = L.length := by simp [upd]
/-- The timers when a call is turned. -/
theorem upd_tms {L : List Ck} {k : Ck} {g : Ck → Ck} (hs : L.Pairwise fun a b => a.id < b.id) (hk : k ∈ L) (ho : k.st = 1) :
    (tms (upd L k.id g)).Perm ((if (g k).st = 1 then [(g k).tm] else []) ++ tStop (tms L) k.id) ∧ (tms L).Perm (k.tm :: tStop (tms L) k.id) := by
  induction L with
  | nil => cases hk
  | cons j l ih =>
    have h1 := List.pairwise_cons.1 hs
    have e1 : ∀ m : Ck, tms (m :: l) = (if m.st = 1 then [m.tm] else []) ++ tms l := fun m => by
      unfold tms
      rw [List.filter_cons]
      by_cases hm : m.st = 1 <;> simp [Ck.opn, hm]
    have e2 : ∀ (m : Ck) (X : List Tm) (i : Int), tStop ((if m.st = 1 then [m.tm] else []) ++ X) i = (if m.st = 1 ∧ m.id ≠ i then [m.tm] else []) ++ tStop X i := fun m X i => by
      unfold tStop
      rw [List.filter_append]
      congr 1
      by_cases hm : m.st = 1
      · by_cases hi : m.id = i <;> simp [hm, hi, Ck.tm]
      · simp [hm]
    rcases List.mem_cons.1 hk with rfl | hk'
    · have hno : ∀ m ∈ l, m.id ≠ k.id := fun m hm e => by have := h1.1 m hm; omega
      have e3 : upd (k :: l) k.id g = g k :: l := by
        unfold upd
        rw [List.map_cons, if_pos rfl]
        congr 1
        exact upd_no hno
      have e5 : tStop (tms l) k.id = tms l := tStop_none fun y hy e => by
        obtain ⟨m, hm, _, e6⟩ := tms_mem.1 hy
        subst e6
        exact hno m hm e
      have e9 : (if k.st = 1 ∧ k.id ≠ k.id then [k.tm] else []) = [] := if_neg (fun h => h.2 rfl)
      rw [e3, e1 k, e2, e9, List.nil_append, e5, if_pos ho]
      refine ⟨?_, .refl _⟩
      have e7 : tms (g k :: l) = (if (g k).st = 1 then [(g k).tm] else []) ++ tms l := by
        unfold tms
        rw [List.filter_cons]
        by_cases hm : (g k).st = 1 <;> simp [Ck.opn, hm]
      rw [e7]
    · have hne : j.id ≠ k.id := fun e => by have := h1.1 k hk'; omega
      obtain ⟨i1, i2⟩ := ih h1.2 hk'
      have e3 : upd (j :: l) k.id g = j :: upd l k.id g := by
        unfold upd
        rw [List.map_cons, if_neg hne]
      have e7 : tms (j :: upd l k.id g) = (if j.st = 1 then [j.tm] else []) ++ tms (upd l k.id g) := by
        unfold tms
        rw [List.filter_cons]
        by_cases hm : j.st = 1 <;> simp [Ck.opn, hm]
      rw [e3, e7, e1 j, e2]
      have e8 : (if j.st = 1 ∧ j.id ≠ k.id then [j.tm] else []) = if j.st = 1 then [j.tm] else [] := by simp [hne]
      rw [e8]
      generalize (if j.st = 1 then [j.tm] else []) = J
      constructor
      · refine (List.Perm.append_left J i1).trans ?_
        rw [← List.append_assoc, ← List.append_assoc]
        exact (List.perm_append_comm).append_right _
      · refine (List.Perm.append_left J i2).trans ?_
        exact List.perm_middle
/-- Call. -/
def cCall (S : CS) (dst : Int) (body : ByteArray) (now : Int) : CS × Int × Int :=
  if dst < 0 ∨ 63 < dst ∨ badN now then (S, 0, 1)
  else if 4096 < body.size then (S, 0, 2)
  else if 2147483647 ≤ S.next ∨ 64 ≤ (opens S.L).length then (S, 0, 5)
  else (⟨S.me, S.next + 1, S.L ++ [⟨S.next, dst, 1, 0, now, body, ByteArray.empty⟩]⟩, S.next, 0)
def cState (S : CS) (id : Int) : Int × ByteArray := match fnd S.L id with
  | none => (0, ByteArray.empty)
  | some k => (k.st, k.rep)
def cForget (S : CS) (id : Int) : CS × Bool := match fnd S.L id with
  | none => (S, false)
  | some k => if k.st = 1 then (S, false) else (⟨S.me, S.next, S.L.filter fun k => k.id != id⟩, true)
def ansG (body : ByteArray) (k : Ck) : Ck := { k with st := 2, rep := body }
def cAnswer (S : CS) (m : Mg) : CS × Bool :=
  if m.kind = 2 ∧ m.dst = S.me then match fnd S.L m.id with
    | none => (S, false)
    | some k => if k.st = 1 ∧ k.dst = m.frm then (⟨S.me, S.next, upd S.L m.id (ansG m.body)⟩, true) else (S, false)
  else (S, false)
/-- A call that is due. -/
def dueG (now : Int) (k : Ck) : Ck := if 8 ≤ k.sent then { k with st := 3 } else { k with sent := k.sent + 1, due := now + wt k.sent }
def dueM (me : Int) (k : Ck) : List Mg := if 8 ≤ k.sent then [] else [⟨1, me, k.dst, k.id, k.body⟩]
def cOne (me now : Int) (p : List Ck × List Mg) (id : Int) : List Ck × List Mg := match fnd p.1 id with
  | none => p
  | some k => (upd p.1 id (dueG now), p.2 ++ dueM me k)
def cRun (me now : Int) (D : List Int) (L : List Ck) : List Ck × List Mg := D.foldl (cOne me now) (L, [])
def cDue (S : CS) (x : List Tm) (now : Int) : CS × List Mg := if badN now then (S, []) else (⟨S.me, S.next, (cRun S.me now (tDue x now).2 S.L).1⟩, (cRun S.me now (tDue x now).2 S.L).2)
end Go.Proofs.Ythcnoamgkkbkcaa
