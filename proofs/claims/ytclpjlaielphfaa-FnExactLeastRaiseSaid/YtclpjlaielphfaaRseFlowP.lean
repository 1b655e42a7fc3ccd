/- Used by the claim's last text. -/
import Derived.Test.YtclpjlaielphfaaRseFlow0
section
namespace Go.Proofs.Ytclpjlaielphfaa.Flow
open Go Go.RowKit Go.Proofs.YtclpjlaielphfaaW.PrintWords Go.Proofs.YtclpjlaielphfaaW.PrintLast Go.Proofs.YtclpjlaielphfaaW.PrintMore
set_option linter.unusedVariables false
abbrev inb {α : Type} (i : Int) (l : List α) : Prop := 0 ≤ i ∧ i < (l.length : Int)
def rowAt (E : List (List Int)) (a : Int) : List Int := E.getD a.toNat []
def fsIn (tt left : List Int) (a : Int) : List Int → List Bool → List Int → List Int → Option (List Bool × List Int × List Int)
  | [], I, V, Q => some (I, V, Q)
  | e :: es, I, V, Q =>
    if inb e left then
      (if 0 < rd left e then
        (if inb e tt then
          (if inb (rd tt e) I then
            (if rdB I (rd tt e) = true then fsIn tt left a es I V Q
             else if inb (rd tt e) V then
               (if inb a V then
                 (if Q.length < 1000000 then fsIn tt left a es (I.set (rd tt e).toNat true) (V.set (rd tt e).toNat (wrap64 (rd V a + 1))) (Q ++ [rd tt e]) else none)
                else none)
              else none)
           else none)
         else none)
       else fsIn tt left a es I V Q)
    else none
def fsOut (E : List (List Int)) (tt left : List Int) : Nat → List Bool → List Int → List Int → Option (List Bool × List Int)
  | 0, _, _, _ => none
  | _ + 1, I, V, [] => some (I, V)
  | k + 1, I, V, a :: Q => if inb a E then (fsIn tt left a (rowAt E a) I V Q).bind fun r => fsOut E tt left k r.1 r.2.1 r.2.2 else none
def fs (k : Nat) (E : List (List Int)) (tt left : List Int) : Option (List Bool × List Int) :=
  if 0 < E.length ∧ E.length ≤ 1000000 then fsOut E tt left k ((List.replicate E.length false).set 0 true) (List.replicate E.length 0) [0] else none
def edgeAt (E : List (List Int)) (next : List Int) (a : Int) : Int := rd (rowAt E a) (rd next a)
def back (e : Int) : Int := Go.bits .xor .i64 e 1
def pushT (e sent : Int) (left next : List Int) : Option (Int × List Int × List Int) :=
  if inb e left then
    (if inb (back e) left then
      some (sent, (left.set e.toNat (wrap64 (rd left e - sent))).set (back e).toNat (wrap64 (rd (left.set e.toNat (wrap64 (rd left e - sent))) (back e) + sent)), next)
     else none)
  else none
def step (next : List Int) (a : Int) : List Int := next.set a.toNat (wrap64 (rd next a + 1))
mutual
def push (E : List (List Int)) (tt V : List Int) : Nat → Int → Int → List Int → List Int → Option (Int × List Int × List Int)
  | 0, _, _, _, _ => none
  | k + 1, a, most, left, next => if a = wrap64 ((E.length : Int) - 1) then some (most, left, next) else pushL E tt V k a most left next
def pushL (E : List (List Int)) (tt V : List Int) : Nat → Int → Int → List Int → List Int → Option (Int × List Int × List Int)
  | 0, _, _, _, _ => none
  | k + 1, a, most, left, next =>
    if inb a next ∧ inb a E then
      (if rd next a < ((rowAt E a).length : Int) then
        (if 0 ≤ rd next a ∧ inb (edgeAt E next a) left ∧ inb (edgeAt E next a) tt ∧ inb a V then
          (if rd left (edgeAt E next a) = 0 then pushL E tt V k a most left (step next a)
           else if inb (rd tt (edgeAt E next a)) V then
             (if rd V (rd tt (edgeAt E next a)) ≠ wrap64 (rd V a + 1) then pushL E tt V k a most left (step next a)
              else (push E tt V k (rd tt (edgeAt E next a)) (mn most (rd left (edgeAt E next a))) left next).bind fun r =>
                if 0 < r.1 then pushT (edgeAt E next a) r.1 r.2.1 r.2.2
                else if inb a r.2.2 then pushL E tt V k a most r.2.1 (step r.2.2 a) else none)
           else none)
         else none)
       else some (0, left, next))
    else none
end
def phase (E : List (List Int)) (tt V : List Int) (top : Int) : Nat → Int → List Int → List Int → Option (Int × List Int × List Int)
  | 0, _, _, _ => none
  | k + 1, sum, left, next => (push E tt V k 0 top left next).bind fun r => if r.1 = 0 then some (sum, r.2.1, r.2.2) else phase E tt V top k (wrap64 (sum + r.1)) r.2.1 r.2.2
def runI (E : List (List Int)) (tt : List Int) : Nat → Int → List Int → Option (Int × List Int)
  | 0, _, _ => none
  | k + 1, sum, left => (fs k E tt left).bind fun m =>
      if inb (wrap64 ((E.length : Int) - 1)) m.1 then
        (if rdB m.1 (wrap64 ((E.length : Int) - 1)) = true then
          (phase E tt m.2 1152921504606846976 k sum left (List.replicate E.length 0)).bind fun r => runI E tt k r.1 r.2.1
         else some (sum, left))
      else none
def lvIn (tt left : List Int) (a : Int) : List Int → List Int → List Int → Option (List Int × List Int)
  | [], V, Q => some (V, Q)
  | e :: es, V, Q =>
    if inb e left then
      (if 0 < rd left e then
        (if inb e tt then
          (if inb (rd tt e) V then
            (if rd V (rd tt e) < 0 then
               (if inb a V then
                 (if Q.length < 1000000 then lvIn tt left a es (V.set (rd tt e).toNat (wrap64 (rd V a + 1))) (Q ++ [rd tt e]) else none)
                else none)
             else lvIn tt left a es V Q)
           else none)
         else none)
       else lvIn tt left a es V Q)
    else none
def lvOut (E : List (List Int)) (tt left : List Int) : Nat → List Int → List Int → Int → Option (List Int)
  | 0, _, _, _ => none
  | k + 1, V, Q, i =>
    if i < (Q.length : Int) then
      (if 0 ≤ i ∧ inb (rd Q i) E then (lvIn tt left (rd Q i) (rowAt E (rd Q i)) V Q).bind fun r => lvOut E tt left k r.1 r.2 (wrap64 (i + 1)) else none)
    else some V
def lv (k : Nat) (E : List (List Int)) (tt left : List Int) : Option (List Int) :=
  if 0 < E.length ∧ E.length ≤ 1000000 then lvOut E tt left k ((List.replicate E.length (-1 : Int)).set 0 0) [0] 0 else none
def runS (E : List (List Int)) (tt : List Int) : Nat → Int → List Int → Option (Int × List Int)
  | 0, _, _ => none
  | k + 1, sum, left => (lv k E tt left).bind fun V =>
      if inb (wrap64 ((E.length : Int) - 1)) V then
        (if rd V (wrap64 ((E.length : Int) - 1)) < 0 then some (sum, left)
         else (phase E tt V 1125899906842624 k sum left (List.replicate E.length 0)).bind fun r => runS E tt k r.1 r.2.1)
      else none
end Go.Proofs.Ytclpjlaielphfaa.Flow
end
